import Derived.Test.YtjmkccabpnigiaaQGivenXb
namespace Go.Proofs.Ytjmkccabpnigiaa.P
open Go.RowKit Go.Proofs.YtjmkccabpnigiaaW.PrintWords Go.Proofs.YtjmkccabpnigiaaW.PrintLast Go.Proofs.YtjmkccabpnigiaaW.PrintMore
attribute [local go_sem] max2_int min2_int max_two min_two max_three min_three max_four min_four
set_option linter.unusedVariables false
set_option linter.unusedSimpArgs false
set_option maxHeartbeats 8000000
set_option maxRecDepth 100000
open Go.Proofs.YtjmkccabpnigiaaW.PrintLast
structure InvC1F (w0 W : World) (s : Bool) (A : Option Addr) (n c : Nat) (s' : Bool) (A' : Option Addr) (n' c' : Nat) (t : Bool) (B : Option Addr) (m d : Nat) (t' : Bool) (B' : Option Addr) (m' d' : Nat) (b0 b1 b2 b3 b4 b5 b6 b7 b8 b9 b10 b11 b12 b13 b14 b15 : Bool) (sv3 : Bool) (Av3 : Option Addr) (nv3 cv3 : Nat) (sv7 : Bool) (Av7 : Option Addr) (nv7 cv7 : Nat) (p8 : Nat) (p9 : Nat) (p10 : Nat) (p11 : Nat) (base : Array Value) (l : List Bool) (a : Act) (w : World) : Prop where
 hl : l = [b0, b1, b2, b3, b4, b5, b6, b7, b8, b9, b10, b11, b12, b13, b14, b15]
 HT : Tm a base [(b0, 16, .pointer (some ⟨w0.heap.size, 0, none⟩)), (b1, 17, .agg #[.bool s, .slice A n c]), (b2, 18, .agg #[.bool s, .slice A n c, .bool s', .slice A' n' c']), (b3, 19, .agg #[.bool sv3, .slice Av3 nv3 cv3]), (b4, 20, .pointer (some ⟨w0.heap.size + 1, 0, none⟩)), (b5, 21, .agg #[.bool t, .slice B m d]), (b6, 22, .agg #[.bool t, .slice B m d, .bool t', .slice B' m' d']), (b7, 23, .agg #[.bool sv7, .slice Av7 nv7 cv7]), (b8, 5, .pointer (some ⟨p8, 0, none⟩)), (b9, 6, .pointer (some ⟨p9, 0, none⟩)), (b10, 7, .pointer (some ⟨p10, 0, none⟩)), (b11, 8, .pointer (some ⟨p11, 0, none⟩))]
 HS : base.size = 70
 E2 : base[2]? = some (.pointer (some ⟨w0.heap.size, 0, none⟩))
 E3 : base[3]? = some (.pointer (some ⟨w0.heap.size + 1, 0, none⟩))
 HB : Below W.heap.size W w
 FW3 : (b3 = true → WI w (.agg #[.bool sv3, .slice Av3 nv3 cv3]) (1))
 FW7 : (b7 = true → WI w (.agg #[.bool sv7, .slice Av7 nv7 cv7]) (1))
 FB8 : (b8 = true → W.heap.size ≤ p8 ∧ w.heap[p8]? = some (.cells (if b12 then #[.bool s, .slice A n c] else #[.bool false, .slice none 0 0]) 43 (0, 0)))
 FB9 : (b9 = true → W.heap.size ≤ p9 ∧ w.heap[p9]? = some (.cells (if b13 then #[.bool sv3, .slice Av3 nv3 cv3] else #[.bool false, .slice none 0 0]) 43 (0, 0)))
 FB10 : (b10 = true → W.heap.size ≤ p10 ∧ w.heap[p10]? = some (.cells (if b14 then #[.bool t, .slice B m d] else #[.bool false, .slice none 0 0]) 43 (0, 0)))
 FB11 : (b11 = true → W.heap.size ≤ p11 ∧ w.heap[p11]? = some (.cells (if b15 then #[.bool sv7, .slice Av7 nv7 cv7] else #[.bool false, .slice none 0 0]) 43 (0, 0)))
 FC12 : (b12 = true → b1 = true ∧ b8 = true)
 FC13 : (b13 = true → b3 = true ∧ b9 = true)
 FC14 : (b14 = true → b5 = true ∧ b10 = true)
 FC15 : (b15 = true → b7 = true ∧ b11 = true)
 FD8_9 : (b8 = true → b9 = true → p8 ≠ p9)
 FD8_10 : (b8 = true → b10 = true → p8 ≠ p10)
 FD8_11 : (b8 = true → b11 = true → p8 ≠ p11)
 FD9_10 : (b9 = true → b10 = true → p9 ≠ p10)
 FD9_11 : (b9 = true → b11 = true → p9 ≠ p11)
 FD10_11 : (b10 = true → b11 = true → p10 ≠ p11)
def InvC1 (w0 W : World) (s : Bool) (A : Option Addr) (n c : Nat) (s' : Bool) (A' : Option Addr) (n' c' : Nat) (t : Bool) (B : Option Addr) (m d : Nat) (t' : Bool) (B' : Option Addr) (m' d' : Nat) (base : Array Value) (l : List Bool) (a : Act) (w : World) : Prop := ∃ (b0 b1 b2 b3 b4 b5 b6 b7 b8 b9 b10 b11 b12 b13 b14 b15 : Bool) (sv3 : Bool) (Av3 : Option Addr) (nv3 cv3 : Nat) (sv7 : Bool) (Av7 : Option Addr) (nv7 cv7 : Nat) (p8 : Nat) (p9 : Nat) (p10 : Nat) (p11 : Nat), InvC1F w0 W s A n c s' A' n' c' t B m d t' B' m' d' b0 b1 b2 b3 b4 b5 b6 b7 b8 b9 b10 b11 b12 b13 b14 b15 sv3 Av3 nv3 cv3 sv7 Av7 nv7 cv7 p8 p9 p10 p11 base l a w
structure InvC1H (x y : Int) (w0 W : World) (s : Bool) (A : Option Addr) (n c : Nat) (s' : Bool) (A' : Option Addr) (n' c' : Nat) (t : Bool) (B : Option Addr) (m d : Nat) (t' : Bool) (B' : Option Addr) (m' d' : Nat) : Prop where
 HFA : Aside0 (FI w0 (.agg #[.bool s, .slice A n c, .bool s', .slice A' n' c']) x)
 HFB : Aside0 (FI w0 (.agg #[.bool t, .slice B m d, .bool t', .slice B' m' d']) y)
 HBW : Aside0 (Below w0.heap.size w0 W)
 c0 : Aside0 (W.cell? ⟨w0.heap.size, 0, none⟩ = some (.bool s))
 c1 : Aside0 (W.cell? ⟨w0.heap.size, 1, none⟩ = some (.slice A n c))
 c2 : Aside0 (W.cell? ⟨w0.heap.size, 2, none⟩ = some (.bool s'))
 c3 : Aside0 (W.cell? ⟨w0.heap.size, 3, none⟩ = some (.slice A' n' c'))
 c4 : Aside0 (W.cell? ⟨w0.heap.size + 1, 0, none⟩ = some (.bool t))
 c5 : Aside0 (W.cell? ⟨w0.heap.size + 1, 1, none⟩ = some (.slice B m d))
 c6 : Aside0 (W.cell? ⟨w0.heap.size + 1, 2, none⟩ = some (.bool t'))
 c7 : Aside0 (W.cell? ⟨w0.heap.size + 1, 3, none⟩ = some (.slice B' m' d'))
variable {x y : Int} {w0 W : World} {s : Bool} {A : Option Addr} {n c : Nat} {s' : Bool} {A' : Option Addr} {n' c' : Nat} {t : Bool} {B : Option Addr} {m d : Nat} {t' : Bool} {B' : Option Addr} {m' d' : Nat} {Q : Exit → Act → World → Prop} {ops : Array Oper} {base : Array Value} {o : Oper} {l : List Bool} {a : Act} {w : World}
theorem InvC1_s0 (HH : InvC1H x y w0 W s A n c s' A' n' c' t B m d t' B' m' d') (hop : o.op = .fieldAddr 45 (.tmp 2) 0) (hd : o.dst = some 16) (hg : o.guard = none) (hI : InvC1 w0 W s A n c s' A' n' c' t B m d t' B' m' d' base l a w) (hb : l.getD 0 true = false) : InvStep (InvC1 w0 W s A n c s' A' n' c' t B m d t' B' m' d' base) 0 o ops Q l a w := by
 obtain ⟨HFA, HFB, HBW, c0, c1, c2, c3, c4, c5, c6, c7⟩ := HH
 unfold InvStep
 have hu43 := Try.underlying43
 have hu45 := Try.underlying45
 obtain ⟨dst, op, ty, pos, after, guard⟩ := o
 simp only at hop hd hg
 subst hop hd hg
 obtain ⟨b0, b1, b2, b3, b4, b5, b6, b7, b8, b9, b10, b11, b12, b13, b14, b15, sv3, Av3, nv3, cv3, sv7, Av7, nv7, cv7, p8, p9, p10, p11, ⟨hl, HT, HS, E2, E3, HB, FW3, FW7, FB8, FB9, FB10, FB11, FC12, FC13, FC14, FC15, FD8_9, FD8_10, FD8_11, FD9_10, FD9_11, FD10_11⟩⟩ := hI
 subst hl
 obtain rfl : b0 = false := hb
 have e2 := HT.base_ 2 _ (by simp) E2
 go_simp
 exact ⟨true, b1, b2, b3, b4, b5, b6, b7, b8, b9, b10, b11, b12, b13, b14, b15, sv3, Av3, nv3, cv3, sv7, Av7, nv7, cv7, p8, p9, p10, p11, ⟨rfl, HT.put 0 16 _ rfl (show ([16, 17, 18, 19, 20, 21, 22, 23, 5, 6, 7, 8] : List Nat).Nodup from by decide) (by rw [HS]; decide), HS, E2, E3, HB, FW3, FW7, FB8, FB9, FB10, FB11, FC12, FC13, FC14, FC15, FD8_9, FD8_10, FD8_11, FD9_10, FD9_11, FD10_11⟩⟩
theorem InvC1_s1 (HH : InvC1H x y w0 W s A n c s' A' n' c' t B m d t' B' m' d') (hop : o.op = .load 43 (.tmp 16)) (hd : o.dst = some 17) (hg : o.guard = none) (hI : InvC1 w0 W s A n c s' A' n' c' t B m d t' B' m' d' base l a w) (hb : l.getD 1 true = false) (hn0 : l.getD 0 false = true) : InvStep (InvC1 w0 W s A n c s' A' n' c' t B m d t' B' m' d' base) 1 o ops Q l a w := by
 obtain ⟨HFA, HFB, HBW, c0, c1, c2, c3, c4, c5, c6, c7⟩ := HH
 unfold InvStep
 have hu43 := Try.underlying43
 have hu45 := Try.underlying45
 obtain ⟨dst, op, ty, pos, after, guard⟩ := o
 simp only at hop hd hg
 subst hop hd hg
 obtain ⟨b0, b1, b2, b3, b4, b5, b6, b7, b8, b9, b10, b11, b12, b13, b14, b15, sv3, Av3, nv3, cv3, sv7, Av7, nv7, cv7, p8, p9, p10, p11, ⟨hl, HT, HS, E2, E3, HB, FW3, FW7, FB8, FB9, FB10, FB11, FC12, FC13, FC14, FC15, FD8_9, FD8_10, FD8_11, FD9_10, FD9_11, FD10_11⟩⟩ := hI
 subst hl
 obtain rfl : b1 = false := hb
 obtain rfl : b0 = true := hn0
 obtain rfl : b12 = false := by
  cases b12 with
  | true => exact absurd (FC12 rfl).1 (by decide)
  | false => rfl
 have e16 := HT.got 16 (.pointer (some ⟨w0.heap.size, 0, none⟩)) (by repeat (first | exact List.mem_cons_self .. | apply List.mem_cons_of_mem))
 have kc0 := pw_cell_below HB c0.out
 have kc1 := pw_cell_below HB c1.out
 go_simp
 exact ⟨true, true, b2, b3, b4, b5, b6, b7, b8, b9, b10, b11, false, b13, b14, b15, sv3, Av3, nv3, cv3, sv7, Av7, nv7, cv7, p8, p9, p10, p11, ⟨rfl, HT.put 1 17 _ rfl (show ([16, 17, 18, 19, 20, 21, 22, 23, 5, 6, 7, 8] : List Nat).Nodup from by decide) (by rw [HS]; decide), HS, E2, E3, HB, FW3, FW7, FB8, FB9, FB10, FB11, (fun h => absurd h (by decide)), FC13, FC14, FC15, FD8_9, FD8_10, FD8_11, FD9_10, FD9_11, FD10_11⟩⟩
theorem InvC1_s2 (HH : InvC1H x y w0 W s A n c s' A' n' c' t B m d t' B' m' d') (hop : o.op = .load 45 (.tmp 2)) (hd : o.dst = some 18) (hg : o.guard = none) (hI : InvC1 w0 W s A n c s' A' n' c' t B m d t' B' m' d' base l a w) (hb : l.getD 2 true = false) : InvStep (InvC1 w0 W s A n c s' A' n' c' t B m d t' B' m' d' base) 2 o ops Q l a w := by
 obtain ⟨HFA, HFB, HBW, c0, c1, c2, c3, c4, c5, c6, c7⟩ := HH
 unfold InvStep
 have hu43 := Try.underlying43
 have hu45 := Try.underlying45
 obtain ⟨dst, op, ty, pos, after, guard⟩ := o
 simp only at hop hd hg
 subst hop hd hg
 obtain ⟨b0, b1, b2, b3, b4, b5, b6, b7, b8, b9, b10, b11, b12, b13, b14, b15, sv3, Av3, nv3, cv3, sv7, Av7, nv7, cv7, p8, p9, p10, p11, ⟨hl, HT, HS, E2, E3, HB, FW3, FW7, FB8, FB9, FB10, FB11, FC12, FC13, FC14, FC15, FD8_9, FD8_10, FD8_11, FD9_10, FD9_11, FD10_11⟩⟩ := hI
 subst hl
 obtain rfl : b2 = false := hb
 have e2 := HT.base_ 2 _ (by simp) E2
 have kc0 := pw_cell_below HB c0.out
 have kc1 := pw_cell_below HB c1.out
 have kc2 := pw_cell_below HB c2.out
 have kc3 := pw_cell_below HB c3.out
 go_simp
 exact ⟨b0, b1, true, b3, b4, b5, b6, b7, b8, b9, b10, b11, b12, b13, b14, b15, sv3, Av3, nv3, cv3, sv7, Av7, nv7, cv7, p8, p9, p10, p11, ⟨rfl, HT.put 2 18 _ rfl (show ([16, 17, 18, 19, 20, 21, 22, 23, 5, 6, 7, 8] : List Nat).Nodup from by decide) (by rw [HS]; decide), HS, E2, E3, HB, FW3, FW7, FB8, FB9, FB10, FB11, FC12, FC13, FC14, FC15, FD8_9, FD8_10, FD8_11, FD9_10, FD9_11, FD10_11⟩⟩
theorem InvC1_s3 (HH : InvC1H x y w0 W s A n c s' A' n' c' t B m d t' B' m' d') (hop : o.op = .call { callee := .value (.func 46), args := #[.tmp 18], argTypes := #[45] }) (hd : o.dst = some 19) (hg : o.guard = none) (hI : InvC1 w0 W s A n c s' A' n' c' t B m d t' B' m' d' base l a w) (hb : l.getD 3 true = false) (hn2 : l.getD 2 false = true) : InvStep (InvC1 w0 W s A n c s' A' n' c' t B m d t' B' m' d' base) 3 o ops Q l a w := by
 obtain ⟨HFA, HFB, HBW, c0, c1, c2, c3, c4, c5, c6, c7⟩ := HH
 unfold InvStep
 have hu43 := Try.underlying43
 have hu45 := Try.underlying45
 obtain ⟨dst, op, ty, pos, after, guard⟩ := o
 simp only at hop hd hg
 subst hop hd hg
 obtain ⟨b0, b1, b2, b3, b4, b5, b6, b7, b8, b9, b10, b11, b12, b13, b14, b15, sv3, Av3, nv3, cv3, sv7, Av7, nv7, cv7, p8, p9, p10, p11, ⟨hl, HT, HS, E2, E3, HB, FW3, FW7, FB8, FB9, FB10, FB11, FC12, FC13, FC14, FC15, FD8_9, FD8_10, FD8_11, FD9_10, FD9_11, FD10_11⟩⟩ := hI
 subst hl
 obtain rfl : b3 = false := hb
 obtain rfl : b2 = true := hn2
 obtain rfl : b13 = false := by
  cases b13 with
  | true => exact absurd (FC13 rfl).1 (by decide)
  | false => rfl
 have e18 := HT.got 18 (.agg #[.bool s, .slice A n c, .bool s', .slice A' n' c']) (by repeat (first | exact List.mem_cons_self .. | apply List.mem_cons_of_mem))
 go_simp
 go_at_call 46
 refine (Den_calls _ x _ ((HFA.out.below HBW.out).below HB)).mono ?_
 rintro e w2 ⟨v2, rfl, hX, hb2⟩
 obtain ⟨sn, An, nn, cn, rfl, HX⟩ := hX.parts
 exact ⟨b0, b1, true, true, b4, b5, b6, b7, b8, b9, b10, b11, b12, false, b14, b15, sn, An, nn, cn, sv7, Av7, nv7, cv7, p8, p9, p10, p11, ⟨rfl, HT.put 3 19 _ rfl (show ([16, 17, 18, 19, 20, 21, 22, 23, 5, 6, 7, 8] : List Nat).Nodup from by decide) (by rw [HS]; decide), HS, E2, E3, below_step HB hb2, (fun _ => HX.out), (fun h => (FW7 h).below hb2), (fun h => ⟨(FB8 h).1, blk_below (FB8 h).2 hb2⟩), (fun h => ⟨(FB9 h).1, blk_below (FB9 h).2 hb2⟩), (fun h => ⟨(FB10 h).1, blk_below (FB10 h).2 hb2⟩), (fun h => ⟨(FB11 h).1, blk_below (FB11 h).2 hb2⟩), FC12, (fun h => absurd h (by decide)), FC14, FC15, FD8_9, FD8_10, FD8_11, FD9_10, FD9_11, FD10_11⟩⟩
theorem InvC1_s4 (HH : InvC1H x y w0 W s A n c s' A' n' c' t B m d t' B' m' d') (hop : o.op = .fieldAddr 45 (.tmp 3) 0) (hd : o.dst = some 20) (hg : o.guard = none) (hI : InvC1 w0 W s A n c s' A' n' c' t B m d t' B' m' d' base l a w) (hb : l.getD 4 true = false) : InvStep (InvC1 w0 W s A n c s' A' n' c' t B m d t' B' m' d' base) 4 o ops Q l a w := by
 obtain ⟨HFA, HFB, HBW, c0, c1, c2, c3, c4, c5, c6, c7⟩ := HH
 unfold InvStep
 have hu43 := Try.underlying43
 have hu45 := Try.underlying45
 obtain ⟨dst, op, ty, pos, after, guard⟩ := o
 simp only at hop hd hg
 subst hop hd hg
 obtain ⟨b0, b1, b2, b3, b4, b5, b6, b7, b8, b9, b10, b11, b12, b13, b14, b15, sv3, Av3, nv3, cv3, sv7, Av7, nv7, cv7, p8, p9, p10, p11, ⟨hl, HT, HS, E2, E3, HB, FW3, FW7, FB8, FB9, FB10, FB11, FC12, FC13, FC14, FC15, FD8_9, FD8_10, FD8_11, FD9_10, FD9_11, FD10_11⟩⟩ := hI
 subst hl
 obtain rfl : b4 = false := hb
 have e3 := HT.base_ 3 _ (by simp) E3
 go_simp
 exact ⟨b0, b1, b2, b3, true, b5, b6, b7, b8, b9, b10, b11, b12, b13, b14, b15, sv3, Av3, nv3, cv3, sv7, Av7, nv7, cv7, p8, p9, p10, p11, ⟨rfl, HT.put 4 20 _ rfl (show ([16, 17, 18, 19, 20, 21, 22, 23, 5, 6, 7, 8] : List Nat).Nodup from by decide) (by rw [HS]; decide), HS, E2, E3, HB, FW3, FW7, FB8, FB9, FB10, FB11, FC12, FC13, FC14, FC15, FD8_9, FD8_10, FD8_11, FD9_10, FD9_11, FD10_11⟩⟩
theorem InvC1_s5 (HH : InvC1H x y w0 W s A n c s' A' n' c' t B m d t' B' m' d') (hop : o.op = .load 43 (.tmp 20)) (hd : o.dst = some 21) (hg : o.guard = none) (hI : InvC1 w0 W s A n c s' A' n' c' t B m d t' B' m' d' base l a w) (hb : l.getD 5 true = false) (hn4 : l.getD 4 false = true) : InvStep (InvC1 w0 W s A n c s' A' n' c' t B m d t' B' m' d' base) 5 o ops Q l a w := by
 obtain ⟨HFA, HFB, HBW, c0, c1, c2, c3, c4, c5, c6, c7⟩ := HH
 unfold InvStep
 have hu43 := Try.underlying43
 have hu45 := Try.underlying45
 obtain ⟨dst, op, ty, pos, after, guard⟩ := o
 simp only at hop hd hg
 subst hop hd hg
 obtain ⟨b0, b1, b2, b3, b4, b5, b6, b7, b8, b9, b10, b11, b12, b13, b14, b15, sv3, Av3, nv3, cv3, sv7, Av7, nv7, cv7, p8, p9, p10, p11, ⟨hl, HT, HS, E2, E3, HB, FW3, FW7, FB8, FB9, FB10, FB11, FC12, FC13, FC14, FC15, FD8_9, FD8_10, FD8_11, FD9_10, FD9_11, FD10_11⟩⟩ := hI
 subst hl
 obtain rfl : b5 = false := hb
 obtain rfl : b4 = true := hn4
 obtain rfl : b14 = false := by
  cases b14 with
  | true => exact absurd (FC14 rfl).1 (by decide)
  | false => rfl
 have e20 := HT.got 20 (.pointer (some ⟨w0.heap.size + 1, 0, none⟩)) (by repeat (first | exact List.mem_cons_self .. | apply List.mem_cons_of_mem))
 have kc4 := pw_cell_below HB c4.out
 have kc5 := pw_cell_below HB c5.out
 go_simp
 exact ⟨b0, b1, b2, b3, true, true, b6, b7, b8, b9, b10, b11, b12, b13, false, b15, sv3, Av3, nv3, cv3, sv7, Av7, nv7, cv7, p8, p9, p10, p11, ⟨rfl, HT.put 5 21 _ rfl (show ([16, 17, 18, 19, 20, 21, 22, 23, 5, 6, 7, 8] : List Nat).Nodup from by decide) (by rw [HS]; decide), HS, E2, E3, HB, FW3, FW7, FB8, FB9, FB10, FB11, FC12, FC13, (fun h => absurd h (by decide)), FC15, FD8_9, FD8_10, FD8_11, FD9_10, FD9_11, FD10_11⟩⟩
theorem InvC1_s6 (HH : InvC1H x y w0 W s A n c s' A' n' c' t B m d t' B' m' d') (hop : o.op = .load 45 (.tmp 3)) (hd : o.dst = some 22) (hg : o.guard = none) (hI : InvC1 w0 W s A n c s' A' n' c' t B m d t' B' m' d' base l a w) (hb : l.getD 6 true = false) : InvStep (InvC1 w0 W s A n c s' A' n' c' t B m d t' B' m' d' base) 6 o ops Q l a w := by
 obtain ⟨HFA, HFB, HBW, c0, c1, c2, c3, c4, c5, c6, c7⟩ := HH
 unfold InvStep
 have hu43 := Try.underlying43
 have hu45 := Try.underlying45
 obtain ⟨dst, op, ty, pos, after, guard⟩ := o
 simp only at hop hd hg
 subst hop hd hg
 obtain ⟨b0, b1, b2, b3, b4, b5, b6, b7, b8, b9, b10, b11, b12, b13, b14, b15, sv3, Av3, nv3, cv3, sv7, Av7, nv7, cv7, p8, p9, p10, p11, ⟨hl, HT, HS, E2, E3, HB, FW3, FW7, FB8, FB9, FB10, FB11, FC12, FC13, FC14, FC15, FD8_9, FD8_10, FD8_11, FD9_10, FD9_11, FD10_11⟩⟩ := hI
 subst hl
 obtain rfl : b6 = false := hb
 have e3 := HT.base_ 3 _ (by simp) E3
 have kc4 := pw_cell_below HB c4.out
 have kc5 := pw_cell_below HB c5.out
 have kc6 := pw_cell_below HB c6.out
 have kc7 := pw_cell_below HB c7.out
 go_simp
 exact ⟨b0, b1, b2, b3, b4, b5, true, b7, b8, b9, b10, b11, b12, b13, b14, b15, sv3, Av3, nv3, cv3, sv7, Av7, nv7, cv7, p8, p9, p10, p11, ⟨rfl, HT.put 6 22 _ rfl (show ([16, 17, 18, 19, 20, 21, 22, 23, 5, 6, 7, 8] : List Nat).Nodup from by decide) (by rw [HS]; decide), HS, E2, E3, HB, FW3, FW7, FB8, FB9, FB10, FB11, FC12, FC13, FC14, FC15, FD8_9, FD8_10, FD8_11, FD9_10, FD9_11, FD10_11⟩⟩
theorem InvC1_s7 (HH : InvC1H x y w0 W s A n c s' A' n' c' t B m d t' B' m' d') (hop : o.op = .call { callee := .value (.func 46), args := #[.tmp 22], argTypes := #[45] }) (hd : o.dst = some 23) (hg : o.guard = none) (hI : InvC1 w0 W s A n c s' A' n' c' t B m d t' B' m' d' base l a w) (hb : l.getD 7 true = false) (hn6 : l.getD 6 false = true) : InvStep (InvC1 w0 W s A n c s' A' n' c' t B m d t' B' m' d' base) 7 o ops Q l a w := by
 obtain ⟨HFA, HFB, HBW, c0, c1, c2, c3, c4, c5, c6, c7⟩ := HH
 unfold InvStep
 have hu43 := Try.underlying43
 have hu45 := Try.underlying45
 obtain ⟨dst, op, ty, pos, after, guard⟩ := o
 simp only at hop hd hg
 subst hop hd hg
 obtain ⟨b0, b1, b2, b3, b4, b5, b6, b7, b8, b9, b10, b11, b12, b13, b14, b15, sv3, Av3, nv3, cv3, sv7, Av7, nv7, cv7, p8, p9, p10, p11, ⟨hl, HT, HS, E2, E3, HB, FW3, FW7, FB8, FB9, FB10, FB11, FC12, FC13, FC14, FC15, FD8_9, FD8_10, FD8_11, FD9_10, FD9_11, FD10_11⟩⟩ := hI
 subst hl
 obtain rfl : b7 = false := hb
 obtain rfl : b6 = true := hn6
 obtain rfl : b15 = false := by
  cases b15 with
  | true => exact absurd (FC15 rfl).1 (by decide)
  | false => rfl
 have e22 := HT.got 22 (.agg #[.bool t, .slice B m d, .bool t', .slice B' m' d']) (by repeat (first | exact List.mem_cons_self .. | apply List.mem_cons_of_mem))
 go_simp
 go_at_call 46
 refine (Den_calls _ y _ ((HFB.out.below HBW.out).below HB)).mono ?_
 rintro e w2 ⟨v2, rfl, hX, hb2⟩
 obtain ⟨sn, An, nn, cn, rfl, HX⟩ := hX.parts
 exact ⟨b0, b1, b2, b3, b4, b5, true, true, b8, b9, b10, b11, b12, b13, b14, false, sv3, Av3, nv3, cv3, sn, An, nn, cn, p8, p9, p10, p11, ⟨rfl, HT.put 7 23 _ rfl (show ([16, 17, 18, 19, 20, 21, 22, 23, 5, 6, 7, 8] : List Nat).Nodup from by decide) (by rw [HS]; decide), HS, E2, E3, below_step HB hb2, (fun h => (FW3 h).below hb2), (fun _ => HX.out), (fun h => ⟨(FB8 h).1, blk_below (FB8 h).2 hb2⟩), (fun h => ⟨(FB9 h).1, blk_below (FB9 h).2 hb2⟩), (fun h => ⟨(FB10 h).1, blk_below (FB10 h).2 hb2⟩), (fun h => ⟨(FB11 h).1, blk_below (FB11 h).2 hb2⟩), FC12, FC13, FC14, (fun h => absurd h (by decide)), FD8_9, FD8_10, FD8_11, FD9_10, FD9_11, FD10_11⟩⟩
theorem InvC1_s8 (HH : InvC1H x y w0 W s A n c s' A' n' c' t B m d t' B' m' d') (hop : o.op = .alloc 43) (hd : o.dst = some 5) (hg : o.guard = none) (hI : InvC1 w0 W s A n c s' A' n' c' t B m d t' B' m' d' base l a w) (hb : l.getD 8 true = false) : InvStep (InvC1 w0 W s A n c s' A' n' c' t B m d t' B' m' d' base) 8 o ops Q l a w := by
 obtain ⟨HFA, HFB, HBW, c0, c1, c2, c3, c4, c5, c6, c7⟩ := HH
 unfold InvStep
 have hu43 := Try.underlying43
 have hu45 := Try.underlying45
 obtain ⟨dst, op, ty, pos, after, guard⟩ := o
 simp only at hop hd hg
 subst hop hd hg
 obtain ⟨b0, b1, b2, b3, b4, b5, b6, b7, b8, b9, b10, b11, b12, b13, b14, b15, sv3, Av3, nv3, cv3, sv7, Av7, nv7, cv7, p8, p9, p10, p11, ⟨hl, HT, HS, E2, E3, HB, FW3, FW7, FB8, FB9, FB10, FB11, FC12, FC13, FC14, FC15, FD8_9, FD8_10, FD8_11, FD9_10, FD9_11, FD10_11⟩⟩ := hI
 subst hl
 obtain rfl : b8 = false := hb
 obtain rfl : b12 = false := by
  cases b12 with
  | true => exact absurd (FC12 rfl).2 (by decide)
  | false => rfl
 go_simp
 exact ⟨b0, b1, b2, b3, b4, b5, b6, b7, true, b9, b10, b11, false, b13, b14, b15, sv3, Av3, nv3, cv3, sv7, Av7, nv7, cv7, w.heap.size, p9, p10, p11, ⟨rfl, HT.put 8 5 _ rfl (show ([16, 17, 18, 19, 20, 21, 22, 23, 5, 6, 7, 8] : List Nat).Nodup from by decide) (by rw [HS]; decide), HS, E2, E3, below_alloc HB _, (fun h => (FW3 h).below (below_alloc (Below.refl _ _) _)), (fun h => (FW7 h).below (below_alloc (Below.refl _ _) _)), (fun _ => ⟨HB.size, blk_new w _⟩), (fun h => ⟨(FB9 h).1, blk_below (FB9 h).2 (below_alloc (Below.refl _ _) _)⟩), (fun h => ⟨(FB10 h).1, blk_below (FB10 h).2 (below_alloc (Below.refl _ _) _)⟩), (fun h => ⟨(FB11 h).1, blk_below (FB11 h).2 (below_alloc (Below.refl _ _) _)⟩), (fun h => absurd h (by decide)), FC13, FC14, FC15, (fun _ h => Nat.ne_of_gt (blk_lt (FB9 h).2)), (fun _ h => Nat.ne_of_gt (blk_lt (FB10 h).2)), (fun _ h => Nat.ne_of_gt (blk_lt (FB11 h).2)), FD9_10, FD9_11, FD10_11⟩⟩
theorem InvC1_s9 (HH : InvC1H x y w0 W s A n c s' A' n' c' t B m d t' B' m' d') (hop : o.op = .alloc 43) (hd : o.dst = some 6) (hg : o.guard = none) (hI : InvC1 w0 W s A n c s' A' n' c' t B m d t' B' m' d' base l a w) (hb : l.getD 9 true = false) : InvStep (InvC1 w0 W s A n c s' A' n' c' t B m d t' B' m' d' base) 9 o ops Q l a w := by
 obtain ⟨HFA, HFB, HBW, c0, c1, c2, c3, c4, c5, c6, c7⟩ := HH
 unfold InvStep
 have hu43 := Try.underlying43
 have hu45 := Try.underlying45
 obtain ⟨dst, op, ty, pos, after, guard⟩ := o
 simp only at hop hd hg
 subst hop hd hg
 obtain ⟨b0, b1, b2, b3, b4, b5, b6, b7, b8, b9, b10, b11, b12, b13, b14, b15, sv3, Av3, nv3, cv3, sv7, Av7, nv7, cv7, p8, p9, p10, p11, ⟨hl, HT, HS, E2, E3, HB, FW3, FW7, FB8, FB9, FB10, FB11, FC12, FC13, FC14, FC15, FD8_9, FD8_10, FD8_11, FD9_10, FD9_11, FD10_11⟩⟩ := hI
 subst hl
 obtain rfl : b9 = false := hb
 obtain rfl : b13 = false := by
  cases b13 with
  | true => exact absurd (FC13 rfl).2 (by decide)
  | false => rfl
 go_simp
 exact ⟨b0, b1, b2, b3, b4, b5, b6, b7, b8, true, b10, b11, b12, false, b14, b15, sv3, Av3, nv3, cv3, sv7, Av7, nv7, cv7, p8, w.heap.size, p10, p11, ⟨rfl, HT.put 9 6 _ rfl (show ([16, 17, 18, 19, 20, 21, 22, 23, 5, 6, 7, 8] : List Nat).Nodup from by decide) (by rw [HS]; decide), HS, E2, E3, below_alloc HB _, (fun h => (FW3 h).below (below_alloc (Below.refl _ _) _)), (fun h => (FW7 h).below (below_alloc (Below.refl _ _) _)), (fun h => ⟨(FB8 h).1, blk_below (FB8 h).2 (below_alloc (Below.refl _ _) _)⟩), (fun _ => ⟨HB.size, blk_new w _⟩), (fun h => ⟨(FB10 h).1, blk_below (FB10 h).2 (below_alloc (Below.refl _ _) _)⟩), (fun h => ⟨(FB11 h).1, blk_below (FB11 h).2 (below_alloc (Below.refl _ _) _)⟩), FC12, (fun h => absurd h (by decide)), FC14, FC15, (fun h _ => Ne.symm (Nat.ne_of_gt (blk_lt (FB8 h).2))), FD8_10, FD8_11, (fun _ h => Nat.ne_of_gt (blk_lt (FB10 h).2)), (fun _ h => Nat.ne_of_gt (blk_lt (FB11 h).2)), FD10_11⟩⟩
theorem InvC1_s10 (HH : InvC1H x y w0 W s A n c s' A' n' c' t B m d t' B' m' d') (hop : o.op = .alloc 43) (hd : o.dst = some 7) (hg : o.guard = none) (hI : InvC1 w0 W s A n c s' A' n' c' t B m d t' B' m' d' base l a w) (hb : l.getD 10 true = false) : InvStep (InvC1 w0 W s A n c s' A' n' c' t B m d t' B' m' d' base) 10 o ops Q l a w := by
 obtain ⟨HFA, HFB, HBW, c0, c1, c2, c3, c4, c5, c6, c7⟩ := HH
 unfold InvStep
 have hu43 := Try.underlying43
 have hu45 := Try.underlying45
 obtain ⟨dst, op, ty, pos, after, guard⟩ := o
 simp only at hop hd hg
 subst hop hd hg
 obtain ⟨b0, b1, b2, b3, b4, b5, b6, b7, b8, b9, b10, b11, b12, b13, b14, b15, sv3, Av3, nv3, cv3, sv7, Av7, nv7, cv7, p8, p9, p10, p11, ⟨hl, HT, HS, E2, E3, HB, FW3, FW7, FB8, FB9, FB10, FB11, FC12, FC13, FC14, FC15, FD8_9, FD8_10, FD8_11, FD9_10, FD9_11, FD10_11⟩⟩ := hI
 subst hl
 obtain rfl : b10 = false := hb
 obtain rfl : b14 = false := by
  cases b14 with
  | true => exact absurd (FC14 rfl).2 (by decide)
  | false => rfl
 go_simp
 exact ⟨b0, b1, b2, b3, b4, b5, b6, b7, b8, b9, true, b11, b12, b13, false, b15, sv3, Av3, nv3, cv3, sv7, Av7, nv7, cv7, p8, p9, w.heap.size, p11, ⟨rfl, HT.put 10 7 _ rfl (show ([16, 17, 18, 19, 20, 21, 22, 23, 5, 6, 7, 8] : List Nat).Nodup from by decide) (by rw [HS]; decide), HS, E2, E3, below_alloc HB _, (fun h => (FW3 h).below (below_alloc (Below.refl _ _) _)), (fun h => (FW7 h).below (below_alloc (Below.refl _ _) _)), (fun h => ⟨(FB8 h).1, blk_below (FB8 h).2 (below_alloc (Below.refl _ _) _)⟩), (fun h => ⟨(FB9 h).1, blk_below (FB9 h).2 (below_alloc (Below.refl _ _) _)⟩), (fun _ => ⟨HB.size, blk_new w _⟩), (fun h => ⟨(FB11 h).1, blk_below (FB11 h).2 (below_alloc (Below.refl _ _) _)⟩), FC12, FC13, (fun h => absurd h (by decide)), FC15, FD8_9, (fun h _ => Ne.symm (Nat.ne_of_gt (blk_lt (FB8 h).2))), FD8_11, (fun h _ => Ne.symm (Nat.ne_of_gt (blk_lt (FB9 h).2))), FD9_11, (fun _ h => Nat.ne_of_gt (blk_lt (FB11 h).2))⟩⟩
theorem InvC1_s11 (HH : InvC1H x y w0 W s A n c s' A' n' c' t B m d t' B' m' d') (hop : o.op = .alloc 43) (hd : o.dst = some 8) (hg : o.guard = none) (hI : InvC1 w0 W s A n c s' A' n' c' t B m d t' B' m' d' base l a w) (hb : l.getD 11 true = false) : InvStep (InvC1 w0 W s A n c s' A' n' c' t B m d t' B' m' d' base) 11 o ops Q l a w := by
 obtain ⟨HFA, HFB, HBW, c0, c1, c2, c3, c4, c5, c6, c7⟩ := HH
 unfold InvStep
 have hu43 := Try.underlying43
 have hu45 := Try.underlying45
 obtain ⟨dst, op, ty, pos, after, guard⟩ := o
 simp only at hop hd hg
 subst hop hd hg
 obtain ⟨b0, b1, b2, b3, b4, b5, b6, b7, b8, b9, b10, b11, b12, b13, b14, b15, sv3, Av3, nv3, cv3, sv7, Av7, nv7, cv7, p8, p9, p10, p11, ⟨hl, HT, HS, E2, E3, HB, FW3, FW7, FB8, FB9, FB10, FB11, FC12, FC13, FC14, FC15, FD8_9, FD8_10, FD8_11, FD9_10, FD9_11, FD10_11⟩⟩ := hI
 subst hl
 obtain rfl : b11 = false := hb
 obtain rfl : b15 = false := by
  cases b15 with
  | true => exact absurd (FC15 rfl).2 (by decide)
  | false => rfl
 go_simp
 exact ⟨b0, b1, b2, b3, b4, b5, b6, b7, b8, b9, b10, true, b12, b13, b14, false, sv3, Av3, nv3, cv3, sv7, Av7, nv7, cv7, p8, p9, p10, w.heap.size, ⟨rfl, HT.put 11 8 _ rfl (show ([16, 17, 18, 19, 20, 21, 22, 23, 5, 6, 7, 8] : List Nat).Nodup from by decide) (by rw [HS]; decide), HS, E2, E3, below_alloc HB _, (fun h => (FW3 h).below (below_alloc (Below.refl _ _) _)), (fun h => (FW7 h).below (below_alloc (Below.refl _ _) _)), (fun h => ⟨(FB8 h).1, blk_below (FB8 h).2 (below_alloc (Below.refl _ _) _)⟩), (fun h => ⟨(FB9 h).1, blk_below (FB9 h).2 (below_alloc (Below.refl _ _) _)⟩), (fun h => ⟨(FB10 h).1, blk_below (FB10 h).2 (below_alloc (Below.refl _ _) _)⟩), (fun _ => ⟨HB.size, blk_new w _⟩), FC12, FC13, FC14, (fun h => absurd h (by decide)), FD8_9, FD8_10, (fun h _ => Ne.symm (Nat.ne_of_gt (blk_lt (FB8 h).2))), FD9_10, (fun h _ => Ne.symm (Nat.ne_of_gt (blk_lt (FB9 h).2))), (fun h _ => Ne.symm (Nat.ne_of_gt (blk_lt (FB10 h).2)))⟩⟩
theorem InvC1_s12 (HH : InvC1H x y w0 W s A n c s' A' n' c' t B m d t' B' m' d') (hop : o.op = .store 43 (.tmp 5) (.tmp 17)) (hd : o.dst = none) (hg : o.guard = none) (hI : InvC1 w0 W s A n c s' A' n' c' t B m d t' B' m' d' base l a w) (hb : l.getD 12 true = false) (hn1 : l.getD 1 false = true) (hn8 : l.getD 8 false = true) : InvStep (InvC1 w0 W s A n c s' A' n' c' t B m d t' B' m' d' base) 12 o ops Q l a w := by
 obtain ⟨HFA, HFB, HBW, c0, c1, c2, c3, c4, c5, c6, c7⟩ := HH
 unfold InvStep
 have hu43 := Try.underlying43
 have hu45 := Try.underlying45
 obtain ⟨dst, op, ty, pos, after, guard⟩ := o
 simp only at hop hd hg
 subst hop hd hg
 obtain ⟨b0, b1, b2, b3, b4, b5, b6, b7, b8, b9, b10, b11, b12, b13, b14, b15, sv3, Av3, nv3, cv3, sv7, Av7, nv7, cv7, p8, p9, p10, p11, ⟨hl, HT, HS, E2, E3, HB, FW3, FW7, FB8, FB9, FB10, FB11, FC12, FC13, FC14, FC15, FD8_9, FD8_10, FD8_11, FD9_10, FD9_11, FD10_11⟩⟩ := hI
 subst hl
 obtain rfl : b12 = false := hb
 obtain rfl : b1 = true := hn1
 obtain rfl : b8 = true := hn8
 have e5 := HT.got 5 (.pointer (some ⟨p8, 0, none⟩)) (by repeat (first | exact List.mem_cons_self .. | apply List.mem_cons_of_mem))
 have e17 := HT.got 17 (.agg #[.bool s, .slice A n c]) (by repeat (first | exact List.mem_cons_self .. | apply List.mem_cons_of_mem))
 have hbk := (FB8 rfl).2
 have hge := (FB8 rfl).1
 have m0 : w.cell? ⟨p8, 0, none⟩ = some (.bool false) := blk_cell hbk 0
 have m1 : w.cell? ⟨p8, 1, none⟩ = some (.slice none 0 0) := blk_cell hbk 1
 have f0 := blk_frozen hbk 0
 have f1 := blk_frozen hbk 1
 have hk := IntKeep.set2 hbk s A n c
 go_simp
 exact ⟨b0, true, b2, b3, b4, b5, b6, b7, true, b9, b10, b11, true, b13, b14, b15, sv3, Av3, nv3, cv3, sv7, Av7, nv7, cv7, p8, p9, p10, p11, ⟨rfl, HT, HS, E2, E3, ((HB.setCell (p := ⟨p8, 0, none⟩) hge _).setCell (p := ⟨p8, 1, none⟩) hge _), (fun h => (FW3 h).keep hk), (fun h => (FW7 h).keep hk), (fun _ => ⟨hge, blk_put (blk_put hbk 0 _ rfl) 1 _ rfl⟩), (fun h => ⟨(FB9 h).1, blk_far (blk_far (FB9 h).2 (p := ⟨p8, 0, none⟩) (Ne.symm (FD8_9 rfl h)) _) (p := ⟨p8, 1, none⟩) (Ne.symm (FD8_9 rfl h)) _⟩), (fun h => ⟨(FB10 h).1, blk_far (blk_far (FB10 h).2 (p := ⟨p8, 0, none⟩) (Ne.symm (FD8_10 rfl h)) _) (p := ⟨p8, 1, none⟩) (Ne.symm (FD8_10 rfl h)) _⟩), (fun h => ⟨(FB11 h).1, blk_far (blk_far (FB11 h).2 (p := ⟨p8, 0, none⟩) (Ne.symm (FD8_11 rfl h)) _) (p := ⟨p8, 1, none⟩) (Ne.symm (FD8_11 rfl h)) _⟩), (fun _ => ⟨rfl, rfl⟩), FC13, FC14, FC15, FD8_9, FD8_10, FD8_11, FD9_10, FD9_11, FD10_11⟩⟩
theorem InvC1_s13 (HH : InvC1H x y w0 W s A n c s' A' n' c' t B m d t' B' m' d') (hop : o.op = .store 43 (.tmp 6) (.tmp 19)) (hd : o.dst = none) (hg : o.guard = none) (hI : InvC1 w0 W s A n c s' A' n' c' t B m d t' B' m' d' base l a w) (hb : l.getD 13 true = false) (hn3 : l.getD 3 false = true) (hn9 : l.getD 9 false = true) : InvStep (InvC1 w0 W s A n c s' A' n' c' t B m d t' B' m' d' base) 13 o ops Q l a w := by
 obtain ⟨HFA, HFB, HBW, c0, c1, c2, c3, c4, c5, c6, c7⟩ := HH
 unfold InvStep
 have hu43 := Try.underlying43
 have hu45 := Try.underlying45
 obtain ⟨dst, op, ty, pos, after, guard⟩ := o
 simp only at hop hd hg
 subst hop hd hg
 obtain ⟨b0, b1, b2, b3, b4, b5, b6, b7, b8, b9, b10, b11, b12, b13, b14, b15, sv3, Av3, nv3, cv3, sv7, Av7, nv7, cv7, p8, p9, p10, p11, ⟨hl, HT, HS, E2, E3, HB, FW3, FW7, FB8, FB9, FB10, FB11, FC12, FC13, FC14, FC15, FD8_9, FD8_10, FD8_11, FD9_10, FD9_11, FD10_11⟩⟩ := hI
 subst hl
 obtain rfl : b13 = false := hb
 obtain rfl : b3 = true := hn3
 obtain rfl : b9 = true := hn9
 have e6 := HT.got 6 (.pointer (some ⟨p9, 0, none⟩)) (by repeat (first | exact List.mem_cons_self .. | apply List.mem_cons_of_mem))
 have e19 := HT.got 19 (.agg #[.bool sv3, .slice Av3 nv3 cv3]) (by repeat (first | exact List.mem_cons_self .. | apply List.mem_cons_of_mem))
 have hbk := (FB9 rfl).2
 have hge := (FB9 rfl).1
 have m0 : w.cell? ⟨p9, 0, none⟩ = some (.bool false) := blk_cell hbk 0
 have m1 : w.cell? ⟨p9, 1, none⟩ = some (.slice none 0 0) := blk_cell hbk 1
 have f0 := blk_frozen hbk 0
 have f1 := blk_frozen hbk 1
 have hk := IntKeep.set2 hbk sv3 Av3 nv3 cv3
 go_simp
 exact ⟨b0, b1, b2, true, b4, b5, b6, b7, b8, true, b10, b11, b12, true, b14, b15, sv3, Av3, nv3, cv3, sv7, Av7, nv7, cv7, p8, p9, p10, p11, ⟨rfl, HT, HS, E2, E3, ((HB.setCell (p := ⟨p9, 0, none⟩) hge _).setCell (p := ⟨p9, 1, none⟩) hge _), (fun h => (FW3 h).keep hk), (fun h => (FW7 h).keep hk), (fun h => ⟨(FB8 h).1, blk_far (blk_far (FB8 h).2 (p := ⟨p9, 0, none⟩) (FD8_9 h rfl) _) (p := ⟨p9, 1, none⟩) (FD8_9 h rfl) _⟩), (fun _ => ⟨hge, blk_put (blk_put hbk 0 _ rfl) 1 _ rfl⟩), (fun h => ⟨(FB10 h).1, blk_far (blk_far (FB10 h).2 (p := ⟨p9, 0, none⟩) (Ne.symm (FD9_10 rfl h)) _) (p := ⟨p9, 1, none⟩) (Ne.symm (FD9_10 rfl h)) _⟩), (fun h => ⟨(FB11 h).1, blk_far (blk_far (FB11 h).2 (p := ⟨p9, 0, none⟩) (Ne.symm (FD9_11 rfl h)) _) (p := ⟨p9, 1, none⟩) (Ne.symm (FD9_11 rfl h)) _⟩), FC12, (fun _ => ⟨rfl, rfl⟩), FC14, FC15, FD8_9, FD8_10, FD8_11, FD9_10, FD9_11, FD10_11⟩⟩
theorem InvC1_s14 (HH : InvC1H x y w0 W s A n c s' A' n' c' t B m d t' B' m' d') (hop : o.op = .store 43 (.tmp 7) (.tmp 21)) (hd : o.dst = none) (hg : o.guard = none) (hI : InvC1 w0 W s A n c s' A' n' c' t B m d t' B' m' d' base l a w) (hb : l.getD 14 true = false) (hn5 : l.getD 5 false = true) (hn10 : l.getD 10 false = true) : InvStep (InvC1 w0 W s A n c s' A' n' c' t B m d t' B' m' d' base) 14 o ops Q l a w := by
 obtain ⟨HFA, HFB, HBW, c0, c1, c2, c3, c4, c5, c6, c7⟩ := HH
 unfold InvStep
 have hu43 := Try.underlying43
 have hu45 := Try.underlying45
 obtain ⟨dst, op, ty, pos, after, guard⟩ := o
 simp only at hop hd hg
 subst hop hd hg
 obtain ⟨b0, b1, b2, b3, b4, b5, b6, b7, b8, b9, b10, b11, b12, b13, b14, b15, sv3, Av3, nv3, cv3, sv7, Av7, nv7, cv7, p8, p9, p10, p11, ⟨hl, HT, HS, E2, E3, HB, FW3, FW7, FB8, FB9, FB10, FB11, FC12, FC13, FC14, FC15, FD8_9, FD8_10, FD8_11, FD9_10, FD9_11, FD10_11⟩⟩ := hI
 subst hl
 obtain rfl : b14 = false := hb
 obtain rfl : b5 = true := hn5
 obtain rfl : b10 = true := hn10
 have e7 := HT.got 7 (.pointer (some ⟨p10, 0, none⟩)) (by repeat (first | exact List.mem_cons_self .. | apply List.mem_cons_of_mem))
 have e21 := HT.got 21 (.agg #[.bool t, .slice B m d]) (by repeat (first | exact List.mem_cons_self .. | apply List.mem_cons_of_mem))
 have hbk := (FB10 rfl).2
 have hge := (FB10 rfl).1
 have m0 : w.cell? ⟨p10, 0, none⟩ = some (.bool false) := blk_cell hbk 0
 have m1 : w.cell? ⟨p10, 1, none⟩ = some (.slice none 0 0) := blk_cell hbk 1
 have f0 := blk_frozen hbk 0
 have f1 := blk_frozen hbk 1
 have hk := IntKeep.set2 hbk t B m d
 go_simp
 exact ⟨b0, b1, b2, b3, b4, true, b6, b7, b8, b9, true, b11, b12, b13, true, b15, sv3, Av3, nv3, cv3, sv7, Av7, nv7, cv7, p8, p9, p10, p11, ⟨rfl, HT, HS, E2, E3, ((HB.setCell (p := ⟨p10, 0, none⟩) hge _).setCell (p := ⟨p10, 1, none⟩) hge _), (fun h => (FW3 h).keep hk), (fun h => (FW7 h).keep hk), (fun h => ⟨(FB8 h).1, blk_far (blk_far (FB8 h).2 (p := ⟨p10, 0, none⟩) (FD8_10 h rfl) _) (p := ⟨p10, 1, none⟩) (FD8_10 h rfl) _⟩), (fun h => ⟨(FB9 h).1, blk_far (blk_far (FB9 h).2 (p := ⟨p10, 0, none⟩) (FD9_10 h rfl) _) (p := ⟨p10, 1, none⟩) (FD9_10 h rfl) _⟩), (fun _ => ⟨hge, blk_put (blk_put hbk 0 _ rfl) 1 _ rfl⟩), (fun h => ⟨(FB11 h).1, blk_far (blk_far (FB11 h).2 (p := ⟨p10, 0, none⟩) (Ne.symm (FD10_11 rfl h)) _) (p := ⟨p10, 1, none⟩) (Ne.symm (FD10_11 rfl h)) _⟩), FC12, FC13, (fun _ => ⟨rfl, rfl⟩), FC15, FD8_9, FD8_10, FD8_11, FD9_10, FD9_11, FD10_11⟩⟩
theorem InvC1_s15 (HH : InvC1H x y w0 W s A n c s' A' n' c' t B m d t' B' m' d') (hop : o.op = .store 43 (.tmp 8) (.tmp 23)) (hd : o.dst = none) (hg : o.guard = none) (hI : InvC1 w0 W s A n c s' A' n' c' t B m d t' B' m' d' base l a w) (hb : l.getD 15 true = false) (hn7 : l.getD 7 false = true) (hn11 : l.getD 11 false = true) : InvStep (InvC1 w0 W s A n c s' A' n' c' t B m d t' B' m' d' base) 15 o ops Q l a w := by
 obtain ⟨HFA, HFB, HBW, c0, c1, c2, c3, c4, c5, c6, c7⟩ := HH
 unfold InvStep
 have hu43 := Try.underlying43
 have hu45 := Try.underlying45
 obtain ⟨dst, op, ty, pos, after, guard⟩ := o
 simp only at hop hd hg
 subst hop hd hg
 obtain ⟨b0, b1, b2, b3, b4, b5, b6, b7, b8, b9, b10, b11, b12, b13, b14, b15, sv3, Av3, nv3, cv3, sv7, Av7, nv7, cv7, p8, p9, p10, p11, ⟨hl, HT, HS, E2, E3, HB, FW3, FW7, FB8, FB9, FB10, FB11, FC12, FC13, FC14, FC15, FD8_9, FD8_10, FD8_11, FD9_10, FD9_11, FD10_11⟩⟩ := hI
 subst hl
 obtain rfl : b15 = false := hb
 obtain rfl : b7 = true := hn7
 obtain rfl : b11 = true := hn11
 have e8 := HT.got 8 (.pointer (some ⟨p11, 0, none⟩)) (by repeat (first | exact List.mem_cons_self .. | apply List.mem_cons_of_mem))
 have e23 := HT.got 23 (.agg #[.bool sv7, .slice Av7 nv7 cv7]) (by repeat (first | exact List.mem_cons_self .. | apply List.mem_cons_of_mem))
 have hbk := (FB11 rfl).2
 have hge := (FB11 rfl).1
 have m0 : w.cell? ⟨p11, 0, none⟩ = some (.bool false) := blk_cell hbk 0
 have m1 : w.cell? ⟨p11, 1, none⟩ = some (.slice none 0 0) := blk_cell hbk 1
 have f0 := blk_frozen hbk 0
 have f1 := blk_frozen hbk 1
 have hk := IntKeep.set2 hbk sv7 Av7 nv7 cv7
 go_simp
 exact ⟨b0, b1, b2, b3, b4, b5, b6, true, b8, b9, b10, true, b12, b13, b14, true, sv3, Av3, nv3, cv3, sv7, Av7, nv7, cv7, p8, p9, p10, p11, ⟨rfl, HT, HS, E2, E3, ((HB.setCell (p := ⟨p11, 0, none⟩) hge _).setCell (p := ⟨p11, 1, none⟩) hge _), (fun h => (FW3 h).keep hk), (fun h => (FW7 h).keep hk), (fun h => ⟨(FB8 h).1, blk_far (blk_far (FB8 h).2 (p := ⟨p11, 0, none⟩) (FD8_11 h rfl) _) (p := ⟨p11, 1, none⟩) (FD8_11 h rfl) _⟩), (fun h => ⟨(FB9 h).1, blk_far (blk_far (FB9 h).2 (p := ⟨p11, 0, none⟩) (FD9_11 h rfl) _) (p := ⟨p11, 1, none⟩) (FD9_11 h rfl) _⟩), (fun h => ⟨(FB10 h).1, blk_far (blk_far (FB10 h).2 (p := ⟨p11, 0, none⟩) (FD10_11 h rfl) _) (p := ⟨p11, 1, none⟩) (FD10_11 h rfl) _⟩), (fun _ => ⟨hge, blk_put (blk_put hbk 0 _ rfl) 1 _ rfl⟩), FC12, FC13, FC14, (fun _ => ⟨rfl, rfl⟩), FD8_9, FD8_10, FD8_11, FD9_10, FD9_11, FD10_11⟩⟩
theorem wrap_cmp (x y : Int) : wrap64 (cmp3 x y) = cmp3 x y := by
 unfold cmp3
 split
 ·unfold wrap64; omega
 ·split <;> (unfold wrap64; omega)
theorem fcmp_calls (u v : Value) (x y : Int) (w0 : World) (hu : FI w0 u x) (hv : FI w0 v y) (hfx : Fit x) (hfy : Fit y) :
    Calls Try.prog 51 #[u, v] w0 fun e w' => e = .returned (.int .i64 (cmp3 x y)) ∧ Below w0.heap.size w0 w' := by
 have hu43 := Try.underlying43
 have hu45 := Try.underlying45
 obtain ⟨s, A, n, c, s', A', n', c', rfl, HU⟩ := hu.parts
 obtain ⟨t, B, m, d, t', B', m', d', rfl, HV⟩ := hv.parts
 have HFA := Aside0.mk (fi_mk HU.out)
 have HFB := Aside0.mk (fi_mk HV.out)
 have HF1 := Aside0.mk (show Fit 1 from Fit.small (by decide) (by decide))
 clear hu hv
 have hb2 := below_alloc (below_alloc (Below.refl w0.heap.size w0) (.cells #[.bool s, .slice A n c, .bool s', .slice A' n' c'] 45)) (.cells #[.bool t, .slice B m d, .bool t', .slice B' m' d'] 45)
 have b2 := blk_alloc (blk_new w0 (.cells #[.bool s, .slice A n c, .bool s', .slice A' n' c'] 45)) (.cells #[.bool t, .slice B m d, .bool t', .slice B' m' d'] 45)
 have b3 := blk_new (w0.alloc (.cells #[.bool s, .slice A n c, .bool s', .slice A' n' c'] 45)) (.cells #[.bool t, .slice B m d, .bool t', .slice B' m' d'] 45)
 rw [World.size_alloc] at b3
 go_enter Try.func51, Try.ntmps51
 go_upto_region 1 with fail
 obtain ⟨W, hW⟩ : ∃ W, ((w0.alloc (.cells #[.bool s, .slice A n c, .bool s', .slice A' n' c'] 45)).alloc (.cells #[.bool t, .slice B m d, .bool t', .slice B' m' d'] 45)) = W := ⟨_, rfl⟩
 rw [hW] at hb2 b2 b3 ⊢
 have HBW := Aside0.mk hb2
 have c0 := Aside0.mk (show W.cell? ⟨w0.heap.size, 0, none⟩ = some (.bool s) from blk_cell b2 0)
 have c1 := Aside0.mk (show W.cell? ⟨w0.heap.size, 1, none⟩ = some (.slice A n c) from blk_cell b2 1)
 have c2 := Aside0.mk (show W.cell? ⟨w0.heap.size, 2, none⟩ = some (.bool s') from blk_cell b2 2)
 have c3 := Aside0.mk (show W.cell? ⟨w0.heap.size, 3, none⟩ = some (.slice A' n' c') from blk_cell b2 3)
 have c4 := Aside0.mk (show W.cell? ⟨w0.heap.size + 1, 0, none⟩ = some (.bool t) from blk_cell b3 0)
 have c5 := Aside0.mk (show W.cell? ⟨w0.heap.size + 1, 1, none⟩ = some (.slice B m d) from blk_cell b3 1)
 have c6 := Aside0.mk (show W.cell? ⟨w0.heap.size + 1, 2, none⟩ = some (.bool t') from blk_cell b3 2)
 have c7 := Aside0.mk (show W.cell? ⟨w0.heap.size + 1, 3, none⟩ = some (.slice B' m' d') from blk_cell b3 3)
 have HF := Aside0.mk (And.intro hfx hfy)
 clear hW hb2 b2 b3 hfx hfy
 go_cut [5, 6, 7, 8] (fun s5 s6 s7 s8 wx => ∃ (p5 p6 p7 p8 : Nat), s5 = .pointer (some ⟨p5, 0, none⟩) ∧ s6 = .pointer (some ⟨p6, 0, none⟩) ∧ s7 = .pointer (some ⟨p7, 0, none⟩) ∧ s8 = .pointer (some ⟨p8, 0, none⟩) ∧ Aside0 (Bx wx p5 x ∧ Bx wx p6 1 ∧ Bx wx p7 y ∧ Bx wx p8 1 ∧ Below w0.heap.size w0 wx))
 case first =>
  refine region_at (by kernel_rfl) (by kernel_rfl) (InvC1 w0 W s A n c s' A' n' c' t B m d t' B' m' d') ?h0 ?hstep ?hdone
  case h0 =>
   exact ⟨false, false, false, false, false, false, false, false, false, false, false, false, false, false, false, false, false, none, 0, 0, false, none, 0, 0, 0, 0, 0, 0, ⟨rfl, Tm.start _ _ rfl, rfl, rfl, rfl, below_drew1 (Below.refl _ _), (fun h => by cases h), (fun h => by cases h), (fun h => by cases h), (fun h => by cases h), (fun h => by cases h), (fun h => by cases h), (fun h => by cases h), (fun h => by cases h), (fun h => by cases h), (fun h => by cases h), (fun h => by cases h), (fun h => by cases h), (fun h => by cases h), (fun h => by cases h), (fun h => by cases h), (fun h => by cases h)⟩⟩
  case hstep =>
   intro Q base i o l a w ho hI hb hn
   have hi : i < 16 := by
    have h1 := (Array.getElem?_eq_some_iff.1 ho).1
    simpa using h1
   rcases (by omega : i = 0 ∨ i = 1 ∨ i = 2 ∨ i = 3 ∨ i = 4 ∨ i = 5 ∨ i = 6 ∨ i = 7 ∨ i = 8 ∨ i = 9 ∨ i = 10 ∨ i = 11 ∨ i = 12 ∨ i = 13 ∨ i = 14 ∨ i = 15) with rfl | rfl | rfl | rfl | rfl | rfl | rfl | rfl | rfl | rfl | rfl | rfl | rfl | rfl | rfl | rfl
   ·simp only [List.getElem?_toArray, List.getElem?_cons_succ, List.getElem?_cons_zero, Option.some.injEq] at ho
    subst ho
    exact InvC1_s0 ⟨HFA, HFB, HBW, c0, c1, c2, c3, c4, c5, c6, c7⟩ rfl rfl rfl hI hb
   ·simp only [List.getElem?_toArray, List.getElem?_cons_succ, List.getElem?_cons_zero, Option.some.injEq] at ho
    subst ho
    exact InvC1_s1 ⟨HFA, HFB, HBW, c0, c1, c2, c3, c4, c5, c6, c7⟩ rfl rfl rfl hI hb (hn 0 (by decide))
   ·simp only [List.getElem?_toArray, List.getElem?_cons_succ, List.getElem?_cons_zero, Option.some.injEq] at ho
    subst ho
    exact InvC1_s2 ⟨HFA, HFB, HBW, c0, c1, c2, c3, c4, c5, c6, c7⟩ rfl rfl rfl hI hb
   ·simp only [List.getElem?_toArray, List.getElem?_cons_succ, List.getElem?_cons_zero, Option.some.injEq] at ho
    subst ho
    exact InvC1_s3 ⟨HFA, HFB, HBW, c0, c1, c2, c3, c4, c5, c6, c7⟩ rfl rfl rfl hI hb (hn 2 (by decide))
   ·simp only [List.getElem?_toArray, List.getElem?_cons_succ, List.getElem?_cons_zero, Option.some.injEq] at ho
    subst ho
    exact InvC1_s4 ⟨HFA, HFB, HBW, c0, c1, c2, c3, c4, c5, c6, c7⟩ rfl rfl rfl hI hb
   ·simp only [List.getElem?_toArray, List.getElem?_cons_succ, List.getElem?_cons_zero, Option.some.injEq] at ho
    subst ho
    exact InvC1_s5 ⟨HFA, HFB, HBW, c0, c1, c2, c3, c4, c5, c6, c7⟩ rfl rfl rfl hI hb (hn 4 (by decide))
   ·simp only [List.getElem?_toArray, List.getElem?_cons_succ, List.getElem?_cons_zero, Option.some.injEq] at ho
    subst ho
    exact InvC1_s6 ⟨HFA, HFB, HBW, c0, c1, c2, c3, c4, c5, c6, c7⟩ rfl rfl rfl hI hb
   ·simp only [List.getElem?_toArray, List.getElem?_cons_succ, List.getElem?_cons_zero, Option.some.injEq] at ho
    subst ho
    exact InvC1_s7 ⟨HFA, HFB, HBW, c0, c1, c2, c3, c4, c5, c6, c7⟩ rfl rfl rfl hI hb (hn 6 (by decide))
   ·simp only [List.getElem?_toArray, List.getElem?_cons_succ, List.getElem?_cons_zero, Option.some.injEq] at ho
    subst ho
    exact InvC1_s8 ⟨HFA, HFB, HBW, c0, c1, c2, c3, c4, c5, c6, c7⟩ rfl rfl rfl hI hb
   ·simp only [List.getElem?_toArray, List.getElem?_cons_succ, List.getElem?_cons_zero, Option.some.injEq] at ho
    subst ho
    exact InvC1_s9 ⟨HFA, HFB, HBW, c0, c1, c2, c3, c4, c5, c6, c7⟩ rfl rfl rfl hI hb
   ·simp only [List.getElem?_toArray, List.getElem?_cons_succ, List.getElem?_cons_zero, Option.some.injEq] at ho
    subst ho
    exact InvC1_s10 ⟨HFA, HFB, HBW, c0, c1, c2, c3, c4, c5, c6, c7⟩ rfl rfl rfl hI hb
   ·simp only [List.getElem?_toArray, List.getElem?_cons_succ, List.getElem?_cons_zero, Option.some.injEq] at ho
    subst ho
    exact InvC1_s11 ⟨HFA, HFB, HBW, c0, c1, c2, c3, c4, c5, c6, c7⟩ rfl rfl rfl hI hb
   ·simp only [List.getElem?_toArray, List.getElem?_cons_succ, List.getElem?_cons_zero, Option.some.injEq] at ho
    subst ho
    exact InvC1_s12 ⟨HFA, HFB, HBW, c0, c1, c2, c3, c4, c5, c6, c7⟩ rfl rfl rfl hI hb (hn 1 (by decide)) (hn 8 (by decide))
   ·simp only [List.getElem?_toArray, List.getElem?_cons_succ, List.getElem?_cons_zero, Option.some.injEq] at ho
    subst ho
    exact InvC1_s13 ⟨HFA, HFB, HBW, c0, c1, c2, c3, c4, c5, c6, c7⟩ rfl rfl rfl hI hb (hn 3 (by decide)) (hn 9 (by decide))
   ·simp only [List.getElem?_toArray, List.getElem?_cons_succ, List.getElem?_cons_zero, Option.some.injEq] at ho
    subst ho
    exact InvC1_s14 ⟨HFA, HFB, HBW, c0, c1, c2, c3, c4, c5, c6, c7⟩ rfl rfl rfl hI hb (hn 5 (by decide)) (hn 10 (by decide))
   ·simp only [List.getElem?_toArray, List.getElem?_cons_succ, List.getElem?_cons_zero, Option.some.injEq] at ho
    subst ho
    exact InvC1_s15 ⟨HFA, HFB, HBW, c0, c1, c2, c3, c4, c5, c6, c7⟩ rfl rfl rfl hI hb (hn 7 (by decide)) (hn 11 (by decide))
  case hdone =>
   intro a w hI
   obtain ⟨b0, b1, b2, b3, b4, b5, b6, b7, b8, b9, b10, b11, b12, b13, b14, b15, sv3, Av3, nv3, cv3, sv7, Av7, nv7, cv7, p8, p9, p10, p11, ⟨hl, HT, HS, E2, E3, HB, FW3, FW7, FB8, FB9, FB10, FB11, FC12, FC13, FC14, FC15, FD8_9, FD8_10, FD8_11, FD9_10, FD9_11, FD10_11⟩⟩ := hI
   obtain ⟨rfl, rfl, rfl, rfl, rfl, rfl, rfl, rfl, rfl, rfl, rfl, rfl, rfl, rfl, rfl, rfl⟩ : true = b0 ∧ true = b1 ∧ true = b2 ∧ true = b3 ∧ true = b4 ∧ true = b5 ∧ true = b6 ∧ true = b7 ∧ true = b8 ∧ true = b9 ∧ true = b10 ∧ true = b11 ∧ true = b12 ∧ true = b13 ∧ true = b14 ∧ true = b15 := by simpa [List.replicate] using hl
   obtain rfl := HT.fin (by rfl) (show ([16, 17, 18, 19, 20, 21, 22, 23, 5, 6, 7, 8] : List Nat).Nodup from by decide) (by simp)
   simp only [overlay, List.foldl_cons, List.foldl_nil, List.setIfInBounds_toArray, List.set_cons_zero, List.set_cons_succ]
   have HE : Aside0 (Bx w p8 x ∧ Bx w p9 1 ∧ Bx w p10 y ∧ Bx w p11 1 ∧ Below w0.heap.size w0 w) := ⟨⟨_, _, _, _, (FB8 rfl).2, (HU.out.1.below HBW.out).below HB⟩, ⟨_, _, _, _, (FB9 rfl).2, FW3 rfl⟩, ⟨_, _, _, _, (FB10 rfl).2, (HV.out.1.below HBW.out).below HB⟩, ⟨_, _, _, _, (FB11 rfl).2, FW7 rfl⟩, below_step HBW.out HB⟩
   clear FB8 FB9 FB10 FB11 FW3 FW7 FD8_9 FD8_10 FD8_11 FD9_10 FD9_11 FD10_11 FC12 FC13 FC14 FC15 HT hl
   go_wp2
   go_meet
   exact ⟨p8, p9, p10, p11, rfl, rfl, rfl, rfl, HE⟩
 case rest =>
  obtain ⟨p5, p6, p7, p8, rfl, rfl, rfl, rfl, HC⟩ := hcut
  clear c0 c1 c2 c3 c4 c5 c6 c7 HBW HU HV HFA HFB
  obtain ⟨W1, rfl⟩ : ∃ W : World, W = wc := ⟨_, rfl⟩
  go_wp2
  go_loopg [9] 1 (fun kq v9 w' => v9 = .int .i64 1 ∧ Aside0 (kq = 1) ∧ Aside0 (Bx w' p5 x ∧ Bx w' p6 1 ∧ Bx w' p7 y ∧ Bx w' p8 1 ∧ Below w0.heap.size w0 w'))
  case atStart => exact ⟨rfl, ⟨rfl⟩, HC⟩
  case round =>
   obtain ⟨rfl, HK, HI⟩ := hrel
   obtain ⟨W, rfl⟩ : ∃ W : World, W = wr := ⟨_, rfl⟩
   clear HC HK
   obtain ⟨s5, A5, n5, d5, H5⟩ := HI.out.1.parts
   obtain ⟨s6, A6, n6, d6, H6⟩ := HI.out.2.1.parts
   have HB := Aside0.mk HI.out.2.2.2.2
   have H78 := Aside0.mk (show Bx W p7 y ∧ Bx W p8 1 from ⟨HI.out.2.2.1, HI.out.2.2.2.1⟩)
   clear HI
   have k0 : W.cell? ⟨p5, 0, none⟩ = some (.bool s5) := blk_cell H5.out.1 0
   have k1 : W.cell? ⟨p5, 1, none⟩ = some (.slice A5 n5 d5) := blk_cell H5.out.1 1
   have k2 : W.cell? ⟨p6, 0, none⟩ = some (.bool s6) := blk_cell H6.out.1 0
   have k3 : W.cell? ⟨p6, 1, none⟩ = some (.slice A6 n6 d6) := blk_cell H6.out.1 1
   go_upto_region 5 with (first
    | (go_at_call 64; (with_reducible refine (div_calls _ _ x 1 _ H5.out.2 H6.out.2 HF.out.1 (by decide) (by decide)).mono ?_); rintro e w2 ⟨q, r, rfl, hq, hr, hb2⟩; rw [Int.ediv_one] at hq; rw [Int.emod_one] at hr; obtain ⟨sq, Aq, nq, dq, rfl, HQ⟩ := hq.parts; obtain ⟨sr, Ar, nr, dr, rfl, HR⟩ := hr.parts; have HB2 := Aside0.mk (below_step HB.out hb2); have H782 := Aside0.mk (And.intro (H78.out.1.below hb2) (H78.out.2.below hb2)); clear hq hr hb2 k0 k1 k2 k3)
    | fail)
   have e1 := blk_alloc (blk_new w2 (.cells #[.bool sq, .slice Aq nq dq] 43)) (.cells #[.bool sr, .slice Ar nr dr] 43)
   have e2 := blk_new (w2.alloc (.cells #[.bool sq, .slice Aq nq dq] 43)) (.cells #[.bool sr, .slice Ar nr dr] 43)
   rw [World.size_alloc] at e2
   have hba := below_alloc (below_alloc (Below.refl w2.heap.size w2) (.cells #[.bool sq, .slice Aq nq dq] 43)) (.cells #[.bool sr, .slice Ar nr dr] 43)
   have HB3 := Aside0.mk (below_step HB2.out hba)
   have H783 := Aside0.mk (And.intro (H782.out.1.below hba) (H782.out.2.below hba))
   have hwq := HQ.out.below hba
   have hwr := HR.out.below hba
   obtain ⟨W3, hW3⟩ : ∃ W3, (w2.alloc (.cells #[.bool sq, .slice Aq nq dq] 43)).alloc (.cells #[.bool sr, .slice Ar nr dr] 43) = W3 := ⟨_, rfl⟩
   rw [hW3] at e1 e2 HB3 H783 hwq hwr ⊢
   obtain ⟨g10, hg10⟩ : ∃ g, w2.heap.size = g := ⟨_, rfl⟩
   rw [hg10] at e1 e2 ⊢
   have HQ3 := Aside0.mk (And.intro e1 hwq)
   have HR3 := Aside0.mk (And.intro e2 hwr)
   clear e1 e2 hwq hwr hba hW3 hg10 HQ HR HB2 H782 H78 HB H5 H6
   obtain ⟨s7, A7, n7, d7, H7⟩ := H783.out.1.parts
   obtain ⟨s8, A8, n8, d8, H8⟩ := H783.out.2.parts
   clear H783
   have k0 : W3.cell? ⟨p7, 0, none⟩ = some (.bool s7) := blk_cell H7.out.1 0
   have k1 : W3.cell? ⟨p7, 1, none⟩ = some (.slice A7 n7 d7) := blk_cell H7.out.1 1
   have k2 : W3.cell? ⟨p8, 0, none⟩ = some (.bool s8) := blk_cell H8.out.1 0
   have k3 : W3.cell? ⟨p8, 1, none⟩ = some (.slice A8 n8 d8) := blk_cell H8.out.1 1
   go_upto_region 6 with (first
    | (go_at_call 64; (with_reducible refine (div_calls _ _ y 1 _ H7.out.2 H8.out.2 HF.out.2 (by decide) (by decide)).mono ?_); rintro e w4 ⟨q, r, rfl, hq, hr, hb2⟩; rw [Int.ediv_one] at hq; rw [Int.emod_one] at hr; obtain ⟨su, Au, nu, du, rfl, HQ⟩ := hq.parts; obtain ⟨sv, Av, nv, dv, rfl, HR⟩ := hr.parts; have HB4 := Aside0.mk (below_step HB3.out hb2); have HQ4 := Aside0.mk (And.intro (blk_below HQ3.out.1 hb2) (HQ3.out.2.below hb2)); have HR4 := Aside0.mk (And.intro (blk_below HR3.out.1 hb2) (HR3.out.2.below hb2)); clear hq hr hb2 k0 k1 k2 k3)
    | fail)
   clear HQ3 HR3 HB3 H7 H8
   have e1 := blk_alloc (blk_new w4 (.cells #[.bool su, .slice Au nu du] 43)) (.cells #[.bool sv, .slice Av nv dv] 43)
   have e2 := blk_new (w4.alloc (.cells #[.bool su, .slice Au nu du] 43)) (.cells #[.bool sv, .slice Av nv dv] 43)
   rw [World.size_alloc] at e2
   have hba := below_alloc (below_alloc (Below.refl w4.heap.size w4) (.cells #[.bool su, .slice Au nu du] 43)) (.cells #[.bool sv, .slice Av nv dv] 43)
   have HB5 := Aside0.mk (below_step HB4.out hba)
   have HQ5 := Aside0.mk (And.intro (blk_below HQ4.out.1 hba) (HQ4.out.2.below hba))
   have HR5 := Aside0.mk (And.intro (blk_below HR4.out.1 hba) (HR4.out.2.below hba))
   have hwq := HQ.out.below hba
   have hwr := HR.out.below hba
   obtain ⟨W5, hW5⟩ : ∃ W5, (w4.alloc (.cells #[.bool su, .slice Au nu du] 43)).alloc (.cells #[.bool sv, .slice Av nv dv] 43) = W5 := ⟨_, rfl⟩
   rw [hW5] at e1 e2 HB5 HQ5 HR5 hwq hwr ⊢
   obtain ⟨g13, hg13⟩ : ∃ g, w4.heap.size = g := ⟨_, rfl⟩
   rw [hg13] at e1 e2 ⊢
   have HU5 := Aside0.mk (And.intro e1 hwq)
   have HV5 := Aside0.mk (And.intro e2 hwr)
   clear e1 e2 hwq hwr hba hW5 hg13 HQ HR HB4 HQ4 HR4
   have k0 : W5.cell? ⟨g10, 0, none⟩ = some (.bool sq) := blk_cell HQ5.out.1 0
   have k1 : W5.cell? ⟨g10, 1, none⟩ = some (.slice Aq nq dq) := blk_cell HQ5.out.1 1
   have k2 : W5.cell? ⟨g13, 0, none⟩ = some (.bool su) := blk_cell HU5.out.1 0
   have k3 : W5.cell? ⟨g13, 1, none⟩ = some (.slice Au nu du) := blk_cell HU5.out.1 1
   by_cases hc : cmp3 x y = 0
   ·have HCC := Aside0.mk hc
    have HC0 := Aside0.mk (show cmp3 0 0 = 0 from rfl)
    have HFZ := Aside0.mk (show Fit 0 from Fit.small (by decide) (by decide))
    clear hc
    have i0 : W5.cell? ⟨g10 + 1, 0, none⟩ = some (.bool sr) := blk_cell HR5.out.1 0
    have i1 : W5.cell? ⟨g10 + 1, 1, none⟩ = some (.slice Ar nr dr) := blk_cell HR5.out.1 1
    have i2 : W5.cell? ⟨g13 + 1, 0, none⟩ = some (.bool sv) := blk_cell HV5.out.1 0
    have i3 : W5.cell? ⟨g13 + 1, 1, none⟩ = some (.slice Av nv dv) := blk_cell HV5.out.1 1
    go_upto_region 9 with (first
     | (go_at_call 57; (with_reducible refine (Compare_calls _ _ x y W5 HQ5.out.2 HU5.out.2 HF.out.1 HF.out.2).mono ?_); rintro e w6 ⟨rfl, hb6⟩; rw [HCC.out]; have HB6 := Aside0.mk hb6; have j0 := pw_cell_below hb6 i0; have j1 := pw_cell_below hb6 i1; have j2 := pw_cell_below hb6 i2; have j3 := pw_cell_below hb6 i3; clear hb6 i0 i1 i2 i3)
     | (go_at_call 54; (with_reducible refine (Sign_calls _ 0 w6 (HR5.out.2.below HB6.out) HFZ.out).mono ?_); rintro e w7 ⟨rfl, hb7⟩; rw [HC0.out]; have HB7 := Aside0.mk (below_step HB6.out hb7); have i0 := pw_cell_below hb7 j0; have i1 := pw_cell_below hb7 j1; have i2 := pw_cell_below hb7 j2; have i3 := pw_cell_below hb7 j3; clear hb7 j0 j1 j2 j3)
     | fail)
    go_region_held3 (fun w' => w'.cell? ⟨g10 + 1, 0, none⟩ = some (.bool sr) ∧ w'.cell? ⟨g10 + 1, 1, none⟩ = some (.slice Ar nr dr) ∧ w'.cell? ⟨g13 + 1, 0, none⟩ = some (.bool sv) ∧ w'.cell? ⟨g13 + 1, 1, none⟩ = some (.slice Av nv dv))
     (first | (with_reducible exact ⟨j0, j1, j2, j3⟩) | (with_reducible exact ⟨l0, l1, l2, l3⟩) | exact ⟨i0, i1, i2, i3⟩ | fail)
     (first
      | (go_at_call 54; (with_reducible refine (Sign_calls _ 0 _ (HR5.out.2.below ?_) HFZ.out).mono ?_); (exact below_drew1 HB7.out); rintro e w8 ⟨rfl, hb8⟩; rw [HC0.out]; have HB8 := Aside0.mk (below_step (below_drew1 HB7.out) hb8); have j0 := pw_cell_below hb8 i0; have j1 := pw_cell_below hb8 i1; have j2 := pw_cell_below hb8 i2; have j3 := pw_cell_below hb8 i3; clear hb8)
      | (go_at_call 54; (with_reducible refine (Sign_calls _ 0 _ (HV5.out.2.below ?_) HFZ.out).mono ?_); (exact HB8.out); rintro e w9 ⟨rfl, hb9⟩; rw [HC0.out]; have HB9 := Aside0.mk (below_step HB8.out hb9); have l0 := pw_cell_below hb9 j0; have l1 := pw_cell_below hb9 j1; have l2 := pw_cell_below hb9 j2; have l3 := pw_cell_below hb9 j3; clear hb9)
      | fail)
    all_goals go_wp2
    go_ret
    have hw0 : IntKind.i64.wrap 0 = 0 := IntWalk.i64_in 0 (by omega)
    exact ⟨by rw [hw0, hw0, HCC.out]; rfl, below_step HB5.out HB9.out⟩
   ·have hc1 : (cmp3 x y == 0) = false := beq_eq_false_iff_ne.mpr hc
    have hw2 : wrap64 (cmp3 x y) = cmp3 x y := wrap_cmp x y
    clear hc
    go_wp2_with (first
     | (go_at_call 57; (with_reducible refine (Compare_calls _ _ x y W5 HQ5.out.2 HU5.out.2 HF.out.1 HF.out.2).mono ?_); rintro e w6 ⟨rfl, hb6⟩; have HB6 := Aside0.mk hb6; have j0 := pw_cell_below hb6 k0; have j1 := pw_cell_below hb6 k1; have j2 := pw_cell_below hb6 k2; have j3 := pw_cell_below hb6 k3; clear hb6)
     | (go_at_call 57; (with_reducible refine (Compare_calls _ _ x y w6 (HQ5.out.2.below HB6.out) (HU5.out.2.below HB6.out) HF.out.1 HF.out.2).mono ?_); rintro e w7 ⟨rfl, hb7⟩)
     | fail)
    go_ret
    exact ⟨by rw [hw2]; rfl, below_step HB5.out (below_step HB6.out hb7)⟩
end Go.Proofs.Ytjmkccabpnigiaa.P
