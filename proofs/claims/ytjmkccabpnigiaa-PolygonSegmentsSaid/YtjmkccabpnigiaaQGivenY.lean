import Derived.Test.YtjmkccabpnigiaaQGivenX
namespace Go.Proofs.Ytjmkccabpnigiaa.P
open Go.RowKit Go.Proofs.YtjmkccabpnigiaaW.PrintWords Go.Proofs.YtjmkccabpnigiaaW.PrintLast Go.Proofs.YtjmkccabpnigiaaW.PrintMore
attribute [local go_sem] max2_int min2_int max_two min_two max_three min_three max_four min_four
set_option linter.unusedVariables false
set_option linter.unusedSimpArgs false
set_option maxHeartbeats 4000000
set_option maxRecDepth 100000
open Go.Proofs.YtjmkccabpnigiaaW.PrintLast
structure InvA1F (x y : Int) (w0 W : World) (s : Bool) (A : Option Addr) (n c : Nat) (s' : Bool) (A' : Option Addr) (n' c' : Nat) (t : Bool) (B : Option Addr) (m d : Nat) (t' : Bool) (B' : Option Addr) (m' d' : Nat) (b0 b1 b2 b3 b4 b5 b6 : Bool) (sv1 : Bool) (Av1 : Option Addr) (nv1 cv1 : Nat) (sv3 : Bool) (Av3 : Option Addr) (nv3 cv3 : Nat) (sv4 : Bool) (Av4 : Option Addr) (nv4 cv4 : Nat) (p5 : Nat) (base : Array Value) (l : List Bool) (a : Act) (w : World) : Prop where
 hl : l = [b0, b1, b2, b3, b4, b5, b6]
 HT : Tm a base [(b0, 15, .agg #[.bool s, .slice A n c, .bool s', .slice A' n' c']), (b1, 16, .agg #[.bool sv1, .slice Av1 nv1 cv1]), (b2, 17, .agg #[.bool t, .slice B m d, .bool t', .slice B' m' d']), (b3, 18, .agg #[.bool sv3, .slice Av3 nv3 cv3]), (b4, 19, .agg #[.bool sv4, .slice Av4 nv4 cv4]), (b5, 6, .pointer (some ⟨p5, 0, none⟩))]
 HS : base.size = 79
 E2 : base[2]? = some (.pointer (some ⟨w0.heap.size, 0, none⟩))
 E3 : base[3]? = some (.pointer (some ⟨w0.heap.size + 1, 0, none⟩))
 HB : Below W.heap.size W w
 FW1 : (b1 = true → WI w (.agg #[.bool sv1, .slice Av1 nv1 cv1]) (1))
 FW3 : (b3 = true → WI w (.agg #[.bool sv3, .slice Av3 nv3 cv3]) (1))
 FW4 : (b4 = true → WI w (.agg #[.bool sv4, .slice Av4 nv4 cv4]) (1))
 FB5 : (b5 = true → W.heap.size ≤ p5 ∧ w.heap[p5]? = some (.cells (if b6 then #[.bool sv4, .slice Av4 nv4 cv4] else #[.bool false, .slice none 0 0]) 43 (0, 0)))
 FC6 : (b6 = true → b4 = true ∧ b5 = true)
def InvA1 (x y : Int) (w0 W : World) (s : Bool) (A : Option Addr) (n c : Nat) (s' : Bool) (A' : Option Addr) (n' c' : Nat) (t : Bool) (B : Option Addr) (m d : Nat) (t' : Bool) (B' : Option Addr) (m' d' : Nat) (base : Array Value) (l : List Bool) (a : Act) (w : World) : Prop := ∃ (b0 b1 b2 b3 b4 b5 b6 : Bool) (sv1 : Bool) (Av1 : Option Addr) (nv1 cv1 : Nat) (sv3 : Bool) (Av3 : Option Addr) (nv3 cv3 : Nat) (sv4 : Bool) (Av4 : Option Addr) (nv4 cv4 : Nat) (p5 : Nat), InvA1F x y w0 W s A n c s' A' n' c' t B m d t' B' m' d' b0 b1 b2 b3 b4 b5 b6 sv1 Av1 nv1 cv1 sv3 Av3 nv3 cv3 sv4 Av4 nv4 cv4 p5 base l a w
structure InvA1H (x y : Int) (w0 W : World) (s : Bool) (A : Option Addr) (n c : Nat) (s' : Bool) (A' : Option Addr) (n' c' : Nat) (t : Bool) (B : Option Addr) (m d : Nat) (t' : Bool) (B' : Option Addr) (m' d' : Nat) : Prop where
 HU : Aside0 (WI w0 (.agg #[.bool s, .slice A n c]) x ∧ WI w0 (.agg #[.bool s', .slice A' n' c']) 0)
 HV : Aside0 (WI w0 (.agg #[.bool t, .slice B m d]) y ∧ WI w0 (.agg #[.bool t', .slice B' m' d']) 0)
 HFA : Aside0 (FI w0 (.agg #[.bool s, .slice A n c, .bool s', .slice A' n' c']) x)
 HFB : Aside0 (FI w0 (.agg #[.bool t, .slice B m d, .bool t', .slice B' m' d']) y)
 HF1 : Aside0 (Fit 1)
 HF : Aside0 (Fit x ∧ Fit y ∧ Fit (x + y) ∧ Fit (x * 1) ∧ Fit (y * 1) ∧ Fit (1 * 1))
 HBW : Aside0 (Below w0.heap.size w0 W)
 c0 : Aside0 (W.cell? ⟨w0.heap.size, 0, none⟩ = some (.bool s))
 c1 : Aside0 (W.cell? ⟨w0.heap.size, 1, none⟩ = some (.slice A n c))
 c2 : Aside0 (W.cell? ⟨w0.heap.size, 2, none⟩ = some (.bool s'))
 c3 : Aside0 (W.cell? ⟨w0.heap.size, 3, none⟩ = some (.slice A' n' c'))
 c4 : Aside0 (W.cell? ⟨w0.heap.size + 1, 0, none⟩ = some (.bool t))
 c5 : Aside0 (W.cell? ⟨w0.heap.size + 1, 1, none⟩ = some (.slice B m d))
 c6 : Aside0 (W.cell? ⟨w0.heap.size + 1, 2, none⟩ = some (.bool t'))
 c7 : Aside0 (W.cell? ⟨w0.heap.size + 1, 3, none⟩ = some (.slice B' m' d'))
variable {x y : Int} {w0 W : World} {s : Bool} {A : Option Addr} {n c : Nat} {s' : Bool} {A' : Option Addr} {n' c' : Nat} {t : Bool} {B : Option Addr} {m d : Nat} {t' : Bool} {B' : Option Addr} {m' d' : Nat} {Q : Exit → Act → World → Prop} {ops : Array Oper} {base : Array Value} {o : Oper} {l : List Bool} {a : Act} {w : World}
theorem InvA1_s0 (HH : InvA1H x y w0 W s A n c s' A' n' c' t B m d t' B' m' d') (hop : o.op = .load 45 (.tmp 2)) (hd : o.dst = some 15) (hg : o.guard = none) (hI : InvA1 x y w0 W s A n c s' A' n' c' t B m d t' B' m' d' base l a w) (hb : l.getD 0 true = false) : InvStep (InvA1 x y w0 W s A n c s' A' n' c' t B m d t' B' m' d' base) 0 o ops Q l a w := by
 obtain ⟨HU, HV, HFA, HFB, HF1, HF, HBW, c0, c1, c2, c3, c4, c5, c6, c7⟩ := HH
 unfold InvStep
 have hu43 := Try.underlying43
 have hu45 := Try.underlying45
 obtain ⟨dst, op, ty, pos, after, guard⟩ := o
 simp only at hop hd hg
 subst hop hd hg
 obtain ⟨b0, b1, b2, b3, b4, b5, b6, sv1, Av1, nv1, cv1, sv3, Av3, nv3, cv3, sv4, Av4, nv4, cv4, p5, ⟨hl, HT, HS, E2, E3, HB, FW1, FW3, FW4, FB5, FC6⟩⟩ := hI
 subst hl
 obtain rfl : b0 = false := hb
 have e2 := HT.base_ 2 _ (by simp) E2
 have kc0 := pw_cell_below HB c0.out
 have kc1 := pw_cell_below HB c1.out
 have kc2 := pw_cell_below HB c2.out
 have kc3 := pw_cell_below HB c3.out
 go_simp
 exact ⟨true, b1, b2, b3, b4, b5, b6, sv1, Av1, nv1, cv1, sv3, Av3, nv3, cv3, sv4, Av4, nv4, cv4, p5, ⟨rfl, HT.put 0 15 _ rfl (show ([15, 16, 17, 18, 19, 6] : List Nat).Nodup from by decide) (by rw [HS]; decide), HS, E2, E3, HB, FW1, FW3, FW4, FB5, FC6⟩⟩
theorem InvA1_s1 (HH : InvA1H x y w0 W s A n c s' A' n' c' t B m d t' B' m' d') (hop : o.op = .call { callee := .value (.func 46), args := #[.tmp 15], argTypes := #[45] }) (hd : o.dst = some 16) (hg : o.guard = none) (hI : InvA1 x y w0 W s A n c s' A' n' c' t B m d t' B' m' d' base l a w) (hb : l.getD 1 true = false) (hn0 : l.getD 0 false = true) : InvStep (InvA1 x y w0 W s A n c s' A' n' c' t B m d t' B' m' d' base) 1 o ops Q l a w := by
 obtain ⟨HU, HV, HFA, HFB, HF1, HF, HBW, c0, c1, c2, c3, c4, c5, c6, c7⟩ := HH
 unfold InvStep
 have hu43 := Try.underlying43
 have hu45 := Try.underlying45
 obtain ⟨dst, op, ty, pos, after, guard⟩ := o
 simp only at hop hd hg
 subst hop hd hg
 obtain ⟨b0, b1, b2, b3, b4, b5, b6, sv1, Av1, nv1, cv1, sv3, Av3, nv3, cv3, sv4, Av4, nv4, cv4, p5, ⟨hl, HT, HS, E2, E3, HB, FW1, FW3, FW4, FB5, FC6⟩⟩ := hI
 subst hl
 obtain rfl : b1 = false := hb
 obtain rfl : b0 = true := hn0
 have e15 := HT.got 15 (.agg #[.bool s, .slice A n c, .bool s', .slice A' n' c']) (by repeat (first | exact List.mem_cons_self .. | apply List.mem_cons_of_mem))
 go_simp
 go_at_call 46
 refine (Den_calls _ x _ ((HFA.out.below HBW.out).below HB)).mono ?_
 rintro e w2 ⟨v2, rfl, hX, hb2⟩
 obtain ⟨sn, An, nn, cn, rfl, HX⟩ := hX.parts
 exact ⟨true, true, b2, b3, b4, b5, b6, sn, An, nn, cn, sv3, Av3, nv3, cv3, sv4, Av4, nv4, cv4, p5, ⟨rfl, HT.put 1 16 _ rfl (show ([15, 16, 17, 18, 19, 6] : List Nat).Nodup from by decide) (by rw [HS]; decide), HS, E2, E3, below_step HB hb2, (fun _ => HX.out), (fun h => (FW3 h).below hb2), (fun h => (FW4 h).below hb2), (fun h => ⟨(FB5 h).1, blk_below (FB5 h).2 hb2⟩), FC6⟩⟩
theorem InvA1_s2 (HH : InvA1H x y w0 W s A n c s' A' n' c' t B m d t' B' m' d') (hop : o.op = .load 45 (.tmp 3)) (hd : o.dst = some 17) (hg : o.guard = none) (hI : InvA1 x y w0 W s A n c s' A' n' c' t B m d t' B' m' d' base l a w) (hb : l.getD 2 true = false) : InvStep (InvA1 x y w0 W s A n c s' A' n' c' t B m d t' B' m' d' base) 2 o ops Q l a w := by
 obtain ⟨HU, HV, HFA, HFB, HF1, HF, HBW, c0, c1, c2, c3, c4, c5, c6, c7⟩ := HH
 unfold InvStep
 have hu43 := Try.underlying43
 have hu45 := Try.underlying45
 obtain ⟨dst, op, ty, pos, after, guard⟩ := o
 simp only at hop hd hg
 subst hop hd hg
 obtain ⟨b0, b1, b2, b3, b4, b5, b6, sv1, Av1, nv1, cv1, sv3, Av3, nv3, cv3, sv4, Av4, nv4, cv4, p5, ⟨hl, HT, HS, E2, E3, HB, FW1, FW3, FW4, FB5, FC6⟩⟩ := hI
 subst hl
 obtain rfl : b2 = false := hb
 have e3 := HT.base_ 3 _ (by simp) E3
 have kc4 := pw_cell_below HB c4.out
 have kc5 := pw_cell_below HB c5.out
 have kc6 := pw_cell_below HB c6.out
 have kc7 := pw_cell_below HB c7.out
 go_simp
 exact ⟨b0, b1, true, b3, b4, b5, b6, sv1, Av1, nv1, cv1, sv3, Av3, nv3, cv3, sv4, Av4, nv4, cv4, p5, ⟨rfl, HT.put 2 17 _ rfl (show ([15, 16, 17, 18, 19, 6] : List Nat).Nodup from by decide) (by rw [HS]; decide), HS, E2, E3, HB, FW1, FW3, FW4, FB5, FC6⟩⟩
theorem InvA1_s3 (HH : InvA1H x y w0 W s A n c s' A' n' c' t B m d t' B' m' d') (hop : o.op = .call { callee := .value (.func 46), args := #[.tmp 17], argTypes := #[45] }) (hd : o.dst = some 18) (hg : o.guard = none) (hI : InvA1 x y w0 W s A n c s' A' n' c' t B m d t' B' m' d' base l a w) (hb : l.getD 3 true = false) (hn2 : l.getD 2 false = true) : InvStep (InvA1 x y w0 W s A n c s' A' n' c' t B m d t' B' m' d' base) 3 o ops Q l a w := by
 obtain ⟨HU, HV, HFA, HFB, HF1, HF, HBW, c0, c1, c2, c3, c4, c5, c6, c7⟩ := HH
 unfold InvStep
 have hu43 := Try.underlying43
 have hu45 := Try.underlying45
 obtain ⟨dst, op, ty, pos, after, guard⟩ := o
 simp only at hop hd hg
 subst hop hd hg
 obtain ⟨b0, b1, b2, b3, b4, b5, b6, sv1, Av1, nv1, cv1, sv3, Av3, nv3, cv3, sv4, Av4, nv4, cv4, p5, ⟨hl, HT, HS, E2, E3, HB, FW1, FW3, FW4, FB5, FC6⟩⟩ := hI
 subst hl
 obtain rfl : b3 = false := hb
 obtain rfl : b2 = true := hn2
 have e17 := HT.got 17 (.agg #[.bool t, .slice B m d, .bool t', .slice B' m' d']) (by repeat (first | exact List.mem_cons_self .. | apply List.mem_cons_of_mem))
 go_simp
 go_at_call 46
 refine (Den_calls _ y _ ((HFB.out.below HBW.out).below HB)).mono ?_
 rintro e w2 ⟨v2, rfl, hX, hb2⟩
 obtain ⟨sn, An, nn, cn, rfl, HX⟩ := hX.parts
 exact ⟨b0, b1, true, true, b4, b5, b6, sv1, Av1, nv1, cv1, sn, An, nn, cn, sv4, Av4, nv4, cv4, p5, ⟨rfl, HT.put 3 18 _ rfl (show ([15, 16, 17, 18, 19, 6] : List Nat).Nodup from by decide) (by rw [HS]; decide), HS, E2, E3, below_step HB hb2, (fun h => (FW1 h).below hb2), (fun _ => HX.out), (fun h => (FW4 h).below hb2), (fun h => ⟨(FB5 h).1, blk_below (FB5 h).2 hb2⟩), FC6⟩⟩
theorem InvA1_s4 (HH : InvA1H x y w0 W s A n c s' A' n' c' t B m d t' B' m' d') (hop : o.op = .call { callee := .value (.func 60), args := #[.tmp 16, .tmp 18], argTypes := #[43, 43] }) (hd : o.dst = some 19) (hg : o.guard = none) (hI : InvA1 x y w0 W s A n c s' A' n' c' t B m d t' B' m' d' base l a w) (hb : l.getD 4 true = false) (hn1 : l.getD 1 false = true) (hn3 : l.getD 3 false = true) : InvStep (InvA1 x y w0 W s A n c s' A' n' c' t B m d t' B' m' d' base) 4 o ops Q l a w := by
 obtain ⟨HU, HV, HFA, HFB, HF1, HF, HBW, c0, c1, c2, c3, c4, c5, c6, c7⟩ := HH
 unfold InvStep
 have hu43 := Try.underlying43
 have hu45 := Try.underlying45
 obtain ⟨dst, op, ty, pos, after, guard⟩ := o
 simp only at hop hd hg
 subst hop hd hg
 obtain ⟨b0, b1, b2, b3, b4, b5, b6, sv1, Av1, nv1, cv1, sv3, Av3, nv3, cv3, sv4, Av4, nv4, cv4, p5, ⟨hl, HT, HS, E2, E3, HB, FW1, FW3, FW4, FB5, FC6⟩⟩ := hI
 subst hl
 obtain rfl : b4 = false := hb
 obtain rfl : b1 = true := hn1
 obtain rfl : b3 = true := hn3
 obtain rfl : b6 = false := by
  cases b6 with
  | true => exact absurd (FC6 rfl).1 (by decide)
  | false => rfl
 have e16 := HT.got 16 (.agg #[.bool sv1, .slice Av1 nv1 cv1]) (by repeat (first | exact List.mem_cons_self .. | apply List.mem_cons_of_mem))
 have e18 := HT.got 18 (.agg #[.bool sv3, .slice Av3 nv3 cv3]) (by repeat (first | exact List.mem_cons_self .. | apply List.mem_cons_of_mem))
 go_simp
 go_at_call 60
 refine (gcd_calls _ _ 1 _ (FW1 rfl) (FW3 rfl) HF1.out).mono ?_
 rintro e w2 ⟨v2, rfl, hX, hb2⟩
 obtain ⟨sn, An, nn, cn, rfl, HX⟩ := hX.parts
 exact ⟨b0, true, b2, true, true, b5, false, sv1, Av1, nv1, cv1, sv3, Av3, nv3, cv3, sn, An, nn, cn, p5, ⟨rfl, HT.put 4 19 _ rfl (show ([15, 16, 17, 18, 19, 6] : List Nat).Nodup from by decide) (by rw [HS]; decide), HS, E2, E3, below_step HB hb2, (fun h => (FW1 h).below hb2), (fun h => (FW3 h).below hb2), (fun _ => HX.out), (fun h => ⟨(FB5 h).1, blk_below (FB5 h).2 hb2⟩), (fun h => absurd h (by decide))⟩⟩
theorem InvA1_s5 (HH : InvA1H x y w0 W s A n c s' A' n' c' t B m d t' B' m' d') (hop : o.op = .alloc 43) (hd : o.dst = some 6) (hg : o.guard = none) (hI : InvA1 x y w0 W s A n c s' A' n' c' t B m d t' B' m' d' base l a w) (hb : l.getD 5 true = false) : InvStep (InvA1 x y w0 W s A n c s' A' n' c' t B m d t' B' m' d' base) 5 o ops Q l a w := by
 obtain ⟨HU, HV, HFA, HFB, HF1, HF, HBW, c0, c1, c2, c3, c4, c5, c6, c7⟩ := HH
 unfold InvStep
 have hu43 := Try.underlying43
 have hu45 := Try.underlying45
 obtain ⟨dst, op, ty, pos, after, guard⟩ := o
 simp only at hop hd hg
 subst hop hd hg
 obtain ⟨b0, b1, b2, b3, b4, b5, b6, sv1, Av1, nv1, cv1, sv3, Av3, nv3, cv3, sv4, Av4, nv4, cv4, p5, ⟨hl, HT, HS, E2, E3, HB, FW1, FW3, FW4, FB5, FC6⟩⟩ := hI
 subst hl
 obtain rfl : b5 = false := hb
 obtain rfl : b6 = false := by
  cases b6 with
  | true => exact absurd (FC6 rfl).2 (by decide)
  | false => rfl
 go_simp
 exact ⟨b0, b1, b2, b3, b4, true, false, sv1, Av1, nv1, cv1, sv3, Av3, nv3, cv3, sv4, Av4, nv4, cv4, w.heap.size, ⟨rfl, HT.put 5 6 _ rfl (show ([15, 16, 17, 18, 19, 6] : List Nat).Nodup from by decide) (by rw [HS]; decide), HS, E2, E3, below_alloc HB _, (fun h => (FW1 h).below (below_alloc (Below.refl _ _) _)), (fun h => (FW3 h).below (below_alloc (Below.refl _ _) _)), (fun h => (FW4 h).below (below_alloc (Below.refl _ _) _)), (fun _ => ⟨HB.size, blk_new w _⟩), (fun h => absurd h (by decide))⟩⟩
theorem InvA1_s6 (HH : InvA1H x y w0 W s A n c s' A' n' c' t B m d t' B' m' d') (hop : o.op = .store 43 (.tmp 6) (.tmp 19)) (hd : o.dst = none) (hg : o.guard = none) (hI : InvA1 x y w0 W s A n c s' A' n' c' t B m d t' B' m' d' base l a w) (hb : l.getD 6 true = false) (hn4 : l.getD 4 false = true) (hn5 : l.getD 5 false = true) : InvStep (InvA1 x y w0 W s A n c s' A' n' c' t B m d t' B' m' d' base) 6 o ops Q l a w := by
 obtain ⟨HU, HV, HFA, HFB, HF1, HF, HBW, c0, c1, c2, c3, c4, c5, c6, c7⟩ := HH
 unfold InvStep
 have hu43 := Try.underlying43
 have hu45 := Try.underlying45
 obtain ⟨dst, op, ty, pos, after, guard⟩ := o
 simp only at hop hd hg
 subst hop hd hg
 obtain ⟨b0, b1, b2, b3, b4, b5, b6, sv1, Av1, nv1, cv1, sv3, Av3, nv3, cv3, sv4, Av4, nv4, cv4, p5, ⟨hl, HT, HS, E2, E3, HB, FW1, FW3, FW4, FB5, FC6⟩⟩ := hI
 subst hl
 obtain rfl : b6 = false := hb
 obtain rfl : b4 = true := hn4
 obtain rfl : b5 = true := hn5
 have e6 := HT.got 6 (.pointer (some ⟨p5, 0, none⟩)) (by repeat (first | exact List.mem_cons_self .. | apply List.mem_cons_of_mem))
 have e19 := HT.got 19 (.agg #[.bool sv4, .slice Av4 nv4 cv4]) (by repeat (first | exact List.mem_cons_self .. | apply List.mem_cons_of_mem))
 have hbk := (FB5 rfl).2
 have hge := (FB5 rfl).1
 have m0 : w.cell? ⟨p5, 0, none⟩ = some (.bool false) := blk_cell hbk 0
 have m1 : w.cell? ⟨p5, 1, none⟩ = some (.slice none 0 0) := blk_cell hbk 1
 have f0 := blk_frozen hbk 0
 have f1 := blk_frozen hbk 1
 have hk := IntKeep.set2 hbk sv4 Av4 nv4 cv4
 go_simp
 exact ⟨b0, b1, b2, b3, true, true, true, sv1, Av1, nv1, cv1, sv3, Av3, nv3, cv3, sv4, Av4, nv4, cv4, p5, ⟨rfl, HT, HS, E2, E3, ((HB.setCell (p := ⟨p5, 0, none⟩) hge _).setCell (p := ⟨p5, 1, none⟩) hge _), (fun h => (FW1 h).keep hk), (fun h => (FW3 h).keep hk), (fun h => (FW4 h).keep hk), (fun _ => ⟨hge, blk_put (blk_put hbk 0 _ rfl) 1 _ rfl⟩), (fun _ => ⟨rfl, rfl⟩)⟩⟩
structure InvA2F (x y : Int) (w0 W : World) (s : Bool) (A : Option Addr) (n c : Nat) (s' : Bool) (A' : Option Addr) (n' c' : Nat) (t : Bool) (B : Option Addr) (m d : Nat) (t' : Bool) (B' : Option Addr) (m' d' : Nat) (g6 : Nat) (sg : Bool) (Ag : Option Addr) (ng cg : Nat) (b0 b1 b2 b3 b4 b5 b6 b7 b8 b9 b10 b11 b12 b13 : Bool) (sv3 : Bool) (Av3 : Option Addr) (nv3 cv3 : Nat) (sv5 : Bool) (Av5 : Option Addr) (nv5 cv5 : Nat) (p6 : Nat) (sv7 : Bool) (Av7 : Option Addr) (nv7 cv7 : Nat) (v8 : Value) (v9 : Value) (p11 : Nat) (base : Array Value) (l : List Bool) (a : Act) (w : World) : Prop where
 hl : l = [b0, b1, b2, b3, b4, b5, b6, b7, b8, b9, b10, b11, b12, b13]
 HT : Tm a base [(b0, 21, .pointer (some ⟨w0.heap.size, 0, none⟩)), (b1, 22, .agg #[.bool s, .slice A n c]), (b2, 23, .agg #[.bool t, .slice B m d, .bool t', .slice B' m' d']), (b3, 24, .agg #[.bool sv3, .slice Av3 nv3 cv3]), (b4, 25, .agg #[.bool sg, .slice Ag ng cg]), (b5, 26, .agg #[.bool sv5, .slice Av5 nv5 cv5]), (b6, 27, .slice (some ⟨p6, 0, none⟩) 2 2), (b7, 28, .tuple #[.agg #[.bool sv7, .slice Av7 nv7 cv7], .int .i64 0]), (b8, 20, v8), (b9, 29, v9), (b10, 30, .int .i64 0), (b11, 7, .pointer (some ⟨p11, 0, none⟩)), (b13, 8, .int .i64 0)]
 HS : base.size = 79
 E2 : base[2]? = some (.pointer (some ⟨w0.heap.size, 0, none⟩))
 E3 : base[3]? = some (.pointer (some ⟨w0.heap.size + 1, 0, none⟩))
 E6 : base[6]? = some (.pointer (some ⟨g6, 0, none⟩))
 HB : Below W.heap.size W w
 FW3 : (b3 = true → WI w (.agg #[.bool sv3, .slice Av3 nv3 cv3]) (1))
 FW5 : (b5 = true → WI w (.agg #[.bool sv5, .slice Av5 nv5 cv5]) (1))
 FS6 : (b6 = true → W.heap.size ≤ p6 ∧ w.heap[p6]? = some (.cells #[.bool s, .slice A n c, .bool sv5, .slice Av5 nv5 cv5] 43 (0, 0)))
 FW7 : (b7 = true → WI w (.agg #[.bool sv7, .slice Av7 nv7 cv7]) (x))
 FV8 : (b8 = true → v8 = .tuple #[.agg #[.bool sv7, .slice Av7 nv7 cv7], .int .i64 0])
 FV9 : (b9 = true → v9 = .agg #[.bool sv7, .slice Av7 nv7 cv7])
 FB11 : (b11 = true → W.heap.size ≤ p11 ∧ w.heap[p11]? = some (.cells (if b12 then #[.bool sv7, .slice Av7 nv7 cv7] else #[.bool false, .slice none 0 0]) 43 (0, 0)))
 FC6 : (b6 = true → b1 = true ∧ b5 = true)
 FC8 : (b8 = true → b7 = true)
 FC9 : (b9 = true → b7 = true ∧ b8 = true)
 FC12 : (b12 = true → b7 = true ∧ b9 = true ∧ b11 = true)
 FD6_11 : (b6 = true → b11 = true → p6 ≠ p11)
def InvA2 (x y : Int) (w0 W : World) (s : Bool) (A : Option Addr) (n c : Nat) (s' : Bool) (A' : Option Addr) (n' c' : Nat) (t : Bool) (B : Option Addr) (m d : Nat) (t' : Bool) (B' : Option Addr) (m' d' : Nat) (g6 : Nat) (sg : Bool) (Ag : Option Addr) (ng cg : Nat) (base : Array Value) (l : List Bool) (a : Act) (w : World) : Prop := ∃ (b0 b1 b2 b3 b4 b5 b6 b7 b8 b9 b10 b11 b12 b13 : Bool) (sv3 : Bool) (Av3 : Option Addr) (nv3 cv3 : Nat) (sv5 : Bool) (Av5 : Option Addr) (nv5 cv5 : Nat) (p6 : Nat) (sv7 : Bool) (Av7 : Option Addr) (nv7 cv7 : Nat) (v8 : Value) (v9 : Value) (p11 : Nat), InvA2F x y w0 W s A n c s' A' n' c' t B m d t' B' m' d' g6 sg Ag ng cg b0 b1 b2 b3 b4 b5 b6 b7 b8 b9 b10 b11 b12 b13 sv3 Av3 nv3 cv3 sv5 Av5 nv5 cv5 p6 sv7 Av7 nv7 cv7 v8 v9 p11 base l a w
structure InvA2H (x y : Int) (w0 W : World) (s : Bool) (A : Option Addr) (n c : Nat) (s' : Bool) (A' : Option Addr) (n' c' : Nat) (t : Bool) (B : Option Addr) (m d : Nat) (t' : Bool) (B' : Option Addr) (m' d' : Nat) (g6 : Nat) (sg : Bool) (Ag : Option Addr) (ng cg : Nat) : Prop where
 HU : Aside0 (WI w0 (.agg #[.bool s, .slice A n c]) x ∧ WI w0 (.agg #[.bool s', .slice A' n' c']) 0)
 HV : Aside0 (WI w0 (.agg #[.bool t, .slice B m d]) y ∧ WI w0 (.agg #[.bool t', .slice B' m' d']) 0)
 HFA : Aside0 (FI w0 (.agg #[.bool s, .slice A n c, .bool s', .slice A' n' c']) x)
 HFB : Aside0 (FI w0 (.agg #[.bool t, .slice B m d, .bool t', .slice B' m' d']) y)
 HF1 : Aside0 (Fit 1)
 HF : Aside0 (Fit x ∧ Fit y ∧ Fit (x + y) ∧ Fit (x * 1) ∧ Fit (y * 1) ∧ Fit (1 * 1))
 HBW : Aside0 (Below w0.heap.size w0 W)
 c0 : Aside0 (W.cell? ⟨w0.heap.size, 0, none⟩ = some (.bool s))
 c1 : Aside0 (W.cell? ⟨w0.heap.size, 1, none⟩ = some (.slice A n c))
 c2 : Aside0 (W.cell? ⟨w0.heap.size, 2, none⟩ = some (.bool s'))
 c3 : Aside0 (W.cell? ⟨w0.heap.size, 3, none⟩ = some (.slice A' n' c'))
 c4 : Aside0 (W.cell? ⟨w0.heap.size + 1, 0, none⟩ = some (.bool t))
 c5 : Aside0 (W.cell? ⟨w0.heap.size + 1, 1, none⟩ = some (.slice B m d))
 c6 : Aside0 (W.cell? ⟨w0.heap.size + 1, 2, none⟩ = some (.bool t'))
 c7 : Aside0 (W.cell? ⟨w0.heap.size + 1, 3, none⟩ = some (.slice B' m' d'))
 HG : Aside0 (W.heap[g6]? = some (.cells #[.bool sg, .slice Ag ng cg] 43 (0, 0)) ∧ WI W (.agg #[.bool sg, .slice Ag ng cg]) 1)
 c8 : Aside0 (W.cell? ⟨g6, 0, none⟩ = some (.bool sg))
 c9 : Aside0 (W.cell? ⟨g6, 1, none⟩ = some (.slice Ag ng cg))
variable {g6 : Nat} {sg : Bool} {Ag : Option Addr} {ng cg : Nat}
theorem InvA2_s0 (HH : InvA2H x y w0 W s A n c s' A' n' c' t B m d t' B' m' d' g6 sg Ag ng cg) (hop : o.op = .fieldAddr 45 (.tmp 2) 0) (hd : o.dst = some 21) (hg : o.guard = none) (hI : InvA2 x y w0 W s A n c s' A' n' c' t B m d t' B' m' d' g6 sg Ag ng cg base l a w) (hb : l.getD 0 true = false) : InvStep (InvA2 x y w0 W s A n c s' A' n' c' t B m d t' B' m' d' g6 sg Ag ng cg base) 0 o ops Q l a w := by
 obtain ⟨HU, HV, HFA, HFB, HF1, HF, HBW, c0, c1, c2, c3, c4, c5, c6, c7, HG, c8, c9⟩ := HH
 unfold InvStep
 have hu43 := Try.underlying43
 have hu45 := Try.underlying45
 obtain ⟨dst, op, ty, pos, after, guard⟩ := o
 simp only at hop hd hg
 subst hop hd hg
 obtain ⟨b0, b1, b2, b3, b4, b5, b6, b7, b8, b9, b10, b11, b12, b13, sv3, Av3, nv3, cv3, sv5, Av5, nv5, cv5, p6, sv7, Av7, nv7, cv7, v8, v9, p11, ⟨hl, HT, HS, E2, E3, E6, HB, FW3, FW5, FS6, FW7, FV8, FV9, FB11, FC6, FC8, FC9, FC12, FD6_11⟩⟩ := hI
 subst hl
 obtain rfl : b0 = false := hb
 have e2 := HT.base_ 2 _ (by simp) E2
 go_simp
 exact ⟨true, b1, b2, b3, b4, b5, b6, b7, b8, b9, b10, b11, b12, b13, sv3, Av3, nv3, cv3, sv5, Av5, nv5, cv5, p6, sv7, Av7, nv7, cv7, v8, v9, p11, ⟨rfl, HT.put 0 21 _ rfl (show ([21, 22, 23, 24, 25, 26, 27, 28, 20, 29, 30, 7, 8] : List Nat).Nodup from by decide) (by rw [HS]; decide), HS, E2, E3, E6, HB, FW3, FW5, FS6, FW7, FV8, FV9, FB11, FC6, FC8, FC9, FC12, FD6_11⟩⟩
theorem InvA2_s1 (HH : InvA2H x y w0 W s A n c s' A' n' c' t B m d t' B' m' d' g6 sg Ag ng cg) (hop : o.op = .load 43 (.tmp 21)) (hd : o.dst = some 22) (hg : o.guard = none) (hI : InvA2 x y w0 W s A n c s' A' n' c' t B m d t' B' m' d' g6 sg Ag ng cg base l a w) (hb : l.getD 1 true = false) (hn0 : l.getD 0 false = true) : InvStep (InvA2 x y w0 W s A n c s' A' n' c' t B m d t' B' m' d' g6 sg Ag ng cg base) 1 o ops Q l a w := by
 obtain ⟨HU, HV, HFA, HFB, HF1, HF, HBW, c0, c1, c2, c3, c4, c5, c6, c7, HG, c8, c9⟩ := HH
 unfold InvStep
 have hu43 := Try.underlying43
 have hu45 := Try.underlying45
 obtain ⟨dst, op, ty, pos, after, guard⟩ := o
 simp only at hop hd hg
 subst hop hd hg
 obtain ⟨b0, b1, b2, b3, b4, b5, b6, b7, b8, b9, b10, b11, b12, b13, sv3, Av3, nv3, cv3, sv5, Av5, nv5, cv5, p6, sv7, Av7, nv7, cv7, v8, v9, p11, ⟨hl, HT, HS, E2, E3, E6, HB, FW3, FW5, FS6, FW7, FV8, FV9, FB11, FC6, FC8, FC9, FC12, FD6_11⟩⟩ := hI
 subst hl
 obtain rfl : b1 = false := hb
 obtain rfl : b0 = true := hn0
 obtain rfl : b6 = false := by
  cases b6 with
  | true => exact absurd (FC6 rfl).1 (by decide)
  | false => rfl
 have e21 := HT.got 21 (.pointer (some ⟨w0.heap.size, 0, none⟩)) (by repeat (first | exact List.mem_cons_self .. | apply List.mem_cons_of_mem))
 have kc0 := pw_cell_below HB c0.out
 have kc1 := pw_cell_below HB c1.out
 go_simp
 exact ⟨true, true, b2, b3, b4, b5, false, b7, b8, b9, b10, b11, b12, b13, sv3, Av3, nv3, cv3, sv5, Av5, nv5, cv5, p6, sv7, Av7, nv7, cv7, v8, v9, p11, ⟨rfl, HT.put 1 22 _ rfl (show ([21, 22, 23, 24, 25, 26, 27, 28, 20, 29, 30, 7, 8] : List Nat).Nodup from by decide) (by rw [HS]; decide), HS, E2, E3, E6, HB, FW3, FW5, (fun h => absurd h (by decide)), FW7, FV8, FV9, FB11, (fun h => absurd h (by decide)), FC8, FC9, FC12, FD6_11⟩⟩
theorem InvA2_s2 (HH : InvA2H x y w0 W s A n c s' A' n' c' t B m d t' B' m' d' g6 sg Ag ng cg) (hop : o.op = .load 45 (.tmp 3)) (hd : o.dst = some 23) (hg : o.guard = none) (hI : InvA2 x y w0 W s A n c s' A' n' c' t B m d t' B' m' d' g6 sg Ag ng cg base l a w) (hb : l.getD 2 true = false) : InvStep (InvA2 x y w0 W s A n c s' A' n' c' t B m d t' B' m' d' g6 sg Ag ng cg base) 2 o ops Q l a w := by
 obtain ⟨HU, HV, HFA, HFB, HF1, HF, HBW, c0, c1, c2, c3, c4, c5, c6, c7, HG, c8, c9⟩ := HH
 unfold InvStep
 have hu43 := Try.underlying43
 have hu45 := Try.underlying45
 obtain ⟨dst, op, ty, pos, after, guard⟩ := o
 simp only at hop hd hg
 subst hop hd hg
 obtain ⟨b0, b1, b2, b3, b4, b5, b6, b7, b8, b9, b10, b11, b12, b13, sv3, Av3, nv3, cv3, sv5, Av5, nv5, cv5, p6, sv7, Av7, nv7, cv7, v8, v9, p11, ⟨hl, HT, HS, E2, E3, E6, HB, FW3, FW5, FS6, FW7, FV8, FV9, FB11, FC6, FC8, FC9, FC12, FD6_11⟩⟩ := hI
 subst hl
 obtain rfl : b2 = false := hb
 have e3 := HT.base_ 3 _ (by simp) E3
 have kc4 := pw_cell_below HB c4.out
 have kc5 := pw_cell_below HB c5.out
 have kc6 := pw_cell_below HB c6.out
 have kc7 := pw_cell_below HB c7.out
 go_simp
 exact ⟨b0, b1, true, b3, b4, b5, b6, b7, b8, b9, b10, b11, b12, b13, sv3, Av3, nv3, cv3, sv5, Av5, nv5, cv5, p6, sv7, Av7, nv7, cv7, v8, v9, p11, ⟨rfl, HT.put 2 23 _ rfl (show ([21, 22, 23, 24, 25, 26, 27, 28, 20, 29, 30, 7, 8] : List Nat).Nodup from by decide) (by rw [HS]; decide), HS, E2, E3, E6, HB, FW3, FW5, FS6, FW7, FV8, FV9, FB11, FC6, FC8, FC9, FC12, FD6_11⟩⟩
theorem InvA2_s3 (HH : InvA2H x y w0 W s A n c s' A' n' c' t B m d t' B' m' d' g6 sg Ag ng cg) (hop : o.op = .call { callee := .value (.func 46), args := #[.tmp 23], argTypes := #[45] }) (hd : o.dst = some 24) (hg : o.guard = none) (hI : InvA2 x y w0 W s A n c s' A' n' c' t B m d t' B' m' d' g6 sg Ag ng cg base l a w) (hb : l.getD 3 true = false) (hn2 : l.getD 2 false = true) : InvStep (InvA2 x y w0 W s A n c s' A' n' c' t B m d t' B' m' d' g6 sg Ag ng cg base) 3 o ops Q l a w := by
 obtain ⟨HU, HV, HFA, HFB, HF1, HF, HBW, c0, c1, c2, c3, c4, c5, c6, c7, HG, c8, c9⟩ := HH
 unfold InvStep
 have hu43 := Try.underlying43
 have hu45 := Try.underlying45
 obtain ⟨dst, op, ty, pos, after, guard⟩ := o
 simp only at hop hd hg
 subst hop hd hg
 obtain ⟨b0, b1, b2, b3, b4, b5, b6, b7, b8, b9, b10, b11, b12, b13, sv3, Av3, nv3, cv3, sv5, Av5, nv5, cv5, p6, sv7, Av7, nv7, cv7, v8, v9, p11, ⟨hl, HT, HS, E2, E3, E6, HB, FW3, FW5, FS6, FW7, FV8, FV9, FB11, FC6, FC8, FC9, FC12, FD6_11⟩⟩ := hI
 subst hl
 obtain rfl : b3 = false := hb
 obtain rfl : b2 = true := hn2
 have e23 := HT.got 23 (.agg #[.bool t, .slice B m d, .bool t', .slice B' m' d']) (by repeat (first | exact List.mem_cons_self .. | apply List.mem_cons_of_mem))
 go_simp
 go_at_call 46
 refine (Den_calls _ y _ ((HFB.out.below HBW.out).below HB)).mono ?_
 rintro e w2 ⟨v2, rfl, hX, hb2⟩
 obtain ⟨sn, An, nn, cn, rfl, HX⟩ := hX.parts
 exact ⟨b0, b1, true, true, b4, b5, b6, b7, b8, b9, b10, b11, b12, b13, sn, An, nn, cn, sv5, Av5, nv5, cv5, p6, sv7, Av7, nv7, cv7, v8, v9, p11, ⟨rfl, HT.put 3 24 _ rfl (show ([21, 22, 23, 24, 25, 26, 27, 28, 20, 29, 30, 7, 8] : List Nat).Nodup from by decide) (by rw [HS]; decide), HS, E2, E3, E6, below_step HB hb2, (fun _ => HX.out), (fun h => (FW5 h).below hb2), (fun h => ⟨(FS6 h).1, blk_below (FS6 h).2 hb2⟩), (fun h => (FW7 h).below hb2), FV8, FV9, (fun h => ⟨(FB11 h).1, blk_below (FB11 h).2 hb2⟩), FC6, FC8, FC9, FC12, FD6_11⟩⟩
theorem InvA2_s4 (HH : InvA2H x y w0 W s A n c s' A' n' c' t B m d t' B' m' d' g6 sg Ag ng cg) (hop : o.op = .load 43 (.tmp 6)) (hd : o.dst = some 25) (hg : o.guard = none) (hI : InvA2 x y w0 W s A n c s' A' n' c' t B m d t' B' m' d' g6 sg Ag ng cg base l a w) (hb : l.getD 4 true = false) : InvStep (InvA2 x y w0 W s A n c s' A' n' c' t B m d t' B' m' d' g6 sg Ag ng cg base) 4 o ops Q l a w := by
 obtain ⟨HU, HV, HFA, HFB, HF1, HF, HBW, c0, c1, c2, c3, c4, c5, c6, c7, HG, c8, c9⟩ := HH
 unfold InvStep
 have hu43 := Try.underlying43
 have hu45 := Try.underlying45
 obtain ⟨dst, op, ty, pos, after, guard⟩ := o
 simp only at hop hd hg
 subst hop hd hg
 obtain ⟨b0, b1, b2, b3, b4, b5, b6, b7, b8, b9, b10, b11, b12, b13, sv3, Av3, nv3, cv3, sv5, Av5, nv5, cv5, p6, sv7, Av7, nv7, cv7, v8, v9, p11, ⟨hl, HT, HS, E2, E3, E6, HB, FW3, FW5, FS6, FW7, FV8, FV9, FB11, FC6, FC8, FC9, FC12, FD6_11⟩⟩ := hI
 subst hl
 obtain rfl : b4 = false := hb
 have e6 := HT.base_ 6 _ (by simp) E6
 have kc8 := pw_cell_below HB c8.out
 have kc9 := pw_cell_below HB c9.out
 go_simp
 exact ⟨b0, b1, b2, b3, true, b5, b6, b7, b8, b9, b10, b11, b12, b13, sv3, Av3, nv3, cv3, sv5, Av5, nv5, cv5, p6, sv7, Av7, nv7, cv7, v8, v9, p11, ⟨rfl, HT.put 4 25 _ rfl (show ([21, 22, 23, 24, 25, 26, 27, 28, 20, 29, 30, 7, 8] : List Nat).Nodup from by decide) (by rw [HS]; decide), HS, E2, E3, E6, HB, FW3, FW5, FS6, FW7, FV8, FV9, FB11, FC6, FC8, FC9, FC12, FD6_11⟩⟩
theorem InvA2_s5 (HH : InvA2H x y w0 W s A n c s' A' n' c' t B m d t' B' m' d' g6 sg Ag ng cg) (hop : o.op = .call { callee := .value (.func 62), args := #[.tmp 24, .tmp 25], argTypes := #[43, 43] }) (hd : o.dst = some 26) (hg : o.guard = none) (hI : InvA2 x y w0 W s A n c s' A' n' c' t B m d t' B' m' d' g6 sg Ag ng cg base l a w) (hb : l.getD 5 true = false) (hn3 : l.getD 3 false = true) (hn4 : l.getD 4 false = true) : InvStep (InvA2 x y w0 W s A n c s' A' n' c' t B m d t' B' m' d' g6 sg Ag ng cg base) 5 o ops Q l a w := by
 obtain ⟨HU, HV, HFA, HFB, HF1, HF, HBW, c0, c1, c2, c3, c4, c5, c6, c7, HG, c8, c9⟩ := HH
 unfold InvStep
 have hu43 := Try.underlying43
 have hu45 := Try.underlying45
 obtain ⟨dst, op, ty, pos, after, guard⟩ := o
 simp only at hop hd hg
 subst hop hd hg
 obtain ⟨b0, b1, b2, b3, b4, b5, b6, b7, b8, b9, b10, b11, b12, b13, sv3, Av3, nv3, cv3, sv5, Av5, nv5, cv5, p6, sv7, Av7, nv7, cv7, v8, v9, p11, ⟨hl, HT, HS, E2, E3, E6, HB, FW3, FW5, FS6, FW7, FV8, FV9, FB11, FC6, FC8, FC9, FC12, FD6_11⟩⟩ := hI
 subst hl
 obtain rfl : b5 = false := hb
 obtain rfl : b3 = true := hn3
 obtain rfl : b4 = true := hn4
 obtain rfl : b6 = false := by
  cases b6 with
  | true => exact absurd (FC6 rfl).2 (by decide)
  | false => rfl
 have e24 := HT.got 24 (.agg #[.bool sv3, .slice Av3 nv3 cv3]) (by repeat (first | exact List.mem_cons_self .. | apply List.mem_cons_of_mem))
 have e25 := HT.got 25 (.agg #[.bool sg, .slice Ag ng cg]) (by repeat (first | exact List.mem_cons_self .. | apply List.mem_cons_of_mem))
 go_simp
 go_at_call 62
 refine (over_calls _ _ 1 1 _ (FW3 rfl) (HG.out.2.below HB) HF1.out (by decide) (by decide)).mono ?_
 rintro e w2 ⟨v2, rfl, hX, hb2⟩
 rw [Int.ediv_one] at hX
 obtain ⟨sn, An, nn, cn, rfl, HX⟩ := hX.parts
 exact ⟨b0, b1, b2, true, true, true, false, b7, b8, b9, b10, b11, b12, b13, sv3, Av3, nv3, cv3, sn, An, nn, cn, p6, sv7, Av7, nv7, cv7, v8, v9, p11, ⟨rfl, HT.put 5 26 _ rfl (show ([21, 22, 23, 24, 25, 26, 27, 28, 20, 29, 30, 7, 8] : List Nat).Nodup from by decide) (by rw [HS]; decide), HS, E2, E3, E6, below_step HB hb2, (fun h => (FW3 h).below hb2), (fun _ => HX.out), (fun h => absurd h (by decide)), (fun h => (FW7 h).below hb2), FV8, FV9, (fun h => ⟨(FB11 h).1, blk_below (FB11 h).2 hb2⟩), (fun h => absurd h (by decide)), FC8, FC9, FC12, FD6_11⟩⟩
theorem InvA2_s6 (HH : InvA2H x y w0 W s A n c s' A' n' c' t B m d t' B' m' d' g6 sg Ag ng cg) (hop : o.op = .buildSlice 123 2 #[(0, .tmp 22), (1, .tmp 26)]) (hd : o.dst = some 27) (hg : o.guard = none) (hI : InvA2 x y w0 W s A n c s' A' n' c' t B m d t' B' m' d' g6 sg Ag ng cg base l a w) (hb : l.getD 6 true = false) (hn1 : l.getD 1 false = true) (hn5 : l.getD 5 false = true) : InvStep (InvA2 x y w0 W s A n c s' A' n' c' t B m d t' B' m' d' g6 sg Ag ng cg base) 6 o ops Q l a w := by
 obtain ⟨HU, HV, HFA, HFB, HF1, HF, HBW, c0, c1, c2, c3, c4, c5, c6, c7, HG, c8, c9⟩ := HH
 unfold InvStep
 have hu43 := Try.underlying43
 have hu45 := Try.underlying45
 obtain ⟨dst, op, ty, pos, after, guard⟩ := o
 simp only at hop hd hg
 subst hop hd hg
 obtain ⟨b0, b1, b2, b3, b4, b5, b6, b7, b8, b9, b10, b11, b12, b13, sv3, Av3, nv3, cv3, sv5, Av5, nv5, cv5, p6, sv7, Av7, nv7, cv7, v8, v9, p11, ⟨hl, HT, HS, E2, E3, E6, HB, FW3, FW5, FS6, FW7, FV8, FV9, FB11, FC6, FC8, FC9, FC12, FD6_11⟩⟩ := hI
 subst hl
 obtain rfl : b6 = false := hb
 obtain rfl : b1 = true := hn1
 obtain rfl : b5 = true := hn5
 have e22 := HT.got 22 (.agg #[.bool s, .slice A n c]) (by repeat (first | exact List.mem_cons_self .. | apply List.mem_cons_of_mem))
 have e26 := HT.got 26 (.agg #[.bool sv5, .slice Av5 nv5 cv5]) (by repeat (first | exact List.mem_cons_self .. | apply List.mem_cons_of_mem))
 go_simp
 exact ⟨b0, true, b2, b3, b4, true, true, b7, b8, b9, b10, b11, b12, b13, sv3, Av3, nv3, cv3, sv5, Av5, nv5, cv5, w.heap.size, sv7, Av7, nv7, cv7, v8, v9, p11, ⟨rfl, HT.put 6 27 _ rfl (show ([21, 22, 23, 24, 25, 26, 27, 28, 20, 29, 30, 7, 8] : List Nat).Nodup from by decide) (by rw [HS]; decide), HS, E2, E3, E6, below_alloc HB _, (fun h => (FW3 h).below (below_alloc (Below.refl _ _) _)), (fun h => (FW5 h).below (below_alloc (Below.refl _ _) _)), (fun _ => ⟨HB.size, blk_new w _⟩), (fun h => (FW7 h).below (below_alloc (Below.refl _ _) _)), FV8, FV9, (fun h => ⟨(FB11 h).1, blk_below (FB11 h).2 (below_alloc (Below.refl _ _) _)⟩), (fun _ => ⟨rfl, rfl⟩), FC8, FC9, FC12, (fun _ h => Nat.ne_of_gt (blk_lt (FB11 h).2))⟩⟩
theorem InvA2_s7 (HH : InvA2H x y w0 W s A n c s' A' n' c' t B m d t' B' m' d' g6 sg Ag ng cg) (hop : o.op = .call { callee := .value (.func 75), args := #[.tmp 27], argTypes := #[123] }) (hd : o.dst = some 28) (hg : o.guard = none) (hI : InvA2 x y w0 W s A n c s' A' n' c' t B m d t' B' m' d' g6 sg Ag ng cg base l a w) (hb : l.getD 7 true = false) (hn6 : l.getD 6 false = true) (hn5 : l.getD 5 false = true) : InvStep (InvA2 x y w0 W s A n c s' A' n' c' t B m d t' B' m' d' g6 sg Ag ng cg base) 7 o ops Q l a w := by
 obtain ⟨HU, HV, HFA, HFB, HF1, HF, HBW, c0, c1, c2, c3, c4, c5, c6, c7, HG, c8, c9⟩ := HH
 unfold InvStep
 have hu43 := Try.underlying43
 have hu45 := Try.underlying45
 obtain ⟨dst, op, ty, pos, after, guard⟩ := o
 simp only at hop hd hg
 subst hop hd hg
 obtain ⟨b0, b1, b2, b3, b4, b5, b6, b7, b8, b9, b10, b11, b12, b13, sv3, Av3, nv3, cv3, sv5, Av5, nv5, cv5, p6, sv7, Av7, nv7, cv7, v8, v9, p11, ⟨hl, HT, HS, E2, E3, E6, HB, FW3, FW5, FS6, FW7, FV8, FV9, FB11, FC6, FC8, FC9, FC12, FD6_11⟩⟩ := hI
 subst hl
 obtain rfl : b7 = false := hb
 obtain rfl : b6 = true := hn6
 obtain rfl : b5 = true := hn5
 obtain rfl : b1 = true := (FC6 rfl).1
 obtain rfl : b8 = false := by
  cases b8 with
  | true => exact absurd (FC8 rfl) (by decide)
  | false => rfl
 obtain rfl : b9 = false := by
  cases b9 with
  | true => exact absurd (FC9 rfl).1 (by decide)
  | false => rfl
 obtain rfl : b12 = false := by
  cases b12 with
  | true => exact absurd (FC12 rfl).1 (by decide)
  | false => rfl
 have e27 := HT.got 27 (.slice (some ⟨p6, 0, none⟩) 2 2) (by repeat (first | exact List.mem_cons_self .. | apply List.mem_cons_of_mem))
 go_simp
 go_at_call 75
 refine (ftimes_calls p6 s A n c sv5 Av5 nv5 cv5 x 1 _ (FS6 rfl).2 ((HU.out.1.below HBW.out).below HB) (FW5 rfl) HF.out.1 HF1.out HF.out.2.2.2.1).mono ?_
 rintro e w2 ⟨v2, rfl, hX, hb2⟩
 rw [Int.mul_one] at hX
 obtain ⟨sn, An, nn, cn, rfl, HX⟩ := hX.parts
 exact ⟨b0, true, b2, b3, b4, true, true, true, false, false, b10, b11, false, b13, sv3, Av3, nv3, cv3, sv5, Av5, nv5, cv5, p6, sn, An, nn, cn, v8, v9, p11, ⟨rfl, HT.put 7 28 _ rfl (show ([21, 22, 23, 24, 25, 26, 27, 28, 20, 29, 30, 7, 8] : List Nat).Nodup from by decide) (by rw [HS]; decide), HS, E2, E3, E6, below_step HB hb2, (fun h => (FW3 h).below hb2), (fun h => (FW5 h).below hb2), (fun h => ⟨(FS6 h).1, blk_below (FS6 h).2 hb2⟩), (fun _ => HX.out), (fun h => absurd h (by decide)), (fun h => absurd h (by decide)), (fun h => ⟨(FB11 h).1, blk_below (FB11 h).2 hb2⟩), FC6, (fun h => absurd h (by decide)), (fun h => absurd h (by decide)), (fun h => absurd h (by decide)), FD6_11⟩⟩
theorem InvA2_s8 (HH : InvA2H x y w0 W s A n c s' A' n' c' t B m d t' B' m' d' g6 sg Ag ng cg) (hop : o.op = .move (.tmp 28)) (hd : o.dst = some 20) (hg : o.guard = none) (hI : InvA2 x y w0 W s A n c s' A' n' c' t B m d t' B' m' d' g6 sg Ag ng cg base l a w) (hb : l.getD 8 true = false) (hn7 : l.getD 7 false = true) : InvStep (InvA2 x y w0 W s A n c s' A' n' c' t B m d t' B' m' d' g6 sg Ag ng cg base) 8 o ops Q l a w := by
 obtain ⟨HU, HV, HFA, HFB, HF1, HF, HBW, c0, c1, c2, c3, c4, c5, c6, c7, HG, c8, c9⟩ := HH
 unfold InvStep
 have hu43 := Try.underlying43
 have hu45 := Try.underlying45
 obtain ⟨dst, op, ty, pos, after, guard⟩ := o
 simp only at hop hd hg
 subst hop hd hg
 obtain ⟨b0, b1, b2, b3, b4, b5, b6, b7, b8, b9, b10, b11, b12, b13, sv3, Av3, nv3, cv3, sv5, Av5, nv5, cv5, p6, sv7, Av7, nv7, cv7, v8, v9, p11, ⟨hl, HT, HS, E2, E3, E6, HB, FW3, FW5, FS6, FW7, FV8, FV9, FB11, FC6, FC8, FC9, FC12, FD6_11⟩⟩ := hI
 subst hl
 obtain rfl : b8 = false := hb
 obtain rfl : b7 = true := hn7
 obtain rfl : b9 = false := by
  cases b9 with
  | true => exact absurd (FC9 rfl).2 (by decide)
  | false => rfl
 have e28 := HT.got 28 (.tuple #[.agg #[.bool sv7, .slice Av7 nv7 cv7], .int .i64 0]) (by repeat (first | exact List.mem_cons_self .. | apply List.mem_cons_of_mem))
 go_simp
 exact ⟨b0, b1, b2, b3, b4, b5, b6, true, true, false, b10, b11, b12, b13, sv3, Av3, nv3, cv3, sv5, Av5, nv5, cv5, p6, sv7, Av7, nv7, cv7, _, v9, p11, ⟨rfl, HT.put 8 20 _ rfl (show ([21, 22, 23, 24, 25, 26, 27, 28, 20, 29, 30, 7, 8] : List Nat).Nodup from by decide) (by rw [HS]; decide), HS, E2, E3, E6, HB, FW3, FW5, FS6, FW7, (fun _ => rfl), (fun h => absurd h (by decide)), FB11, FC6, (fun _ => rfl), (fun h => absurd h (by decide)), FC12, FD6_11⟩⟩
theorem InvA2_s9 (HH : InvA2H x y w0 W s A n c s' A' n' c' t B m d t' B' m' d' g6 sg Ag ng cg) (hop : o.op = .extract (.tmp 20) 0) (hd : o.dst = some 29) (hg : o.guard = none) (hI : InvA2 x y w0 W s A n c s' A' n' c' t B m d t' B' m' d' g6 sg Ag ng cg base l a w) (hb : l.getD 9 true = false) (hn8 : l.getD 8 false = true) : InvStep (InvA2 x y w0 W s A n c s' A' n' c' t B m d t' B' m' d' g6 sg Ag ng cg base) 9 o ops Q l a w := by
 obtain ⟨HU, HV, HFA, HFB, HF1, HF, HBW, c0, c1, c2, c3, c4, c5, c6, c7, HG, c8, c9⟩ := HH
 unfold InvStep
 have hu43 := Try.underlying43
 have hu45 := Try.underlying45
 obtain ⟨dst, op, ty, pos, after, guard⟩ := o
 simp only at hop hd hg
 subst hop hd hg
 obtain ⟨b0, b1, b2, b3, b4, b5, b6, b7, b8, b9, b10, b11, b12, b13, sv3, Av3, nv3, cv3, sv5, Av5, nv5, cv5, p6, sv7, Av7, nv7, cv7, v8, v9, p11, ⟨hl, HT, HS, E2, E3, E6, HB, FW3, FW5, FS6, FW7, FV8, FV9, FB11, FC6, FC8, FC9, FC12, FD6_11⟩⟩ := hI
 subst hl
 obtain rfl : b9 = false := hb
 obtain rfl : b8 = true := hn8
 obtain rfl : b7 = true := (FC8 rfl)
 obtain rfl : b12 = false := by
  cases b12 with
  | true => exact absurd (FC12 rfl).2.1 (by decide)
  | false => rfl
 have e20 := (HT.got 20 (v8) (by repeat (first | exact List.mem_cons_self .. | apply List.mem_cons_of_mem))).trans (congrArg some (FV8 rfl))
 go_simp
 exact ⟨b0, b1, b2, b3, b4, b5, b6, true, true, true, b10, b11, false, b13, sv3, Av3, nv3, cv3, sv5, Av5, nv5, cv5, p6, sv7, Av7, nv7, cv7, v8, _, p11, ⟨rfl, HT.put 9 29 _ rfl (show ([21, 22, 23, 24, 25, 26, 27, 28, 20, 29, 30, 7, 8] : List Nat).Nodup from by decide) (by rw [HS]; decide), HS, E2, E3, E6, HB, FW3, FW5, FS6, FW7, FV8, (fun _ => rfl), FB11, FC6, FC8, (fun _ => ⟨rfl, rfl⟩), (fun h => absurd h (by decide)), FD6_11⟩⟩
theorem InvA2_s10 (HH : InvA2H x y w0 W s A n c s' A' n' c' t B m d t' B' m' d' g6 sg Ag ng cg) (hop : o.op = .extract (.tmp 20) 1) (hd : o.dst = some 30) (hg : o.guard = none) (hI : InvA2 x y w0 W s A n c s' A' n' c' t B m d t' B' m' d' g6 sg Ag ng cg base l a w) (hb : l.getD 10 true = false) (hn8 : l.getD 8 false = true) : InvStep (InvA2 x y w0 W s A n c s' A' n' c' t B m d t' B' m' d' g6 sg Ag ng cg base) 10 o ops Q l a w := by
 obtain ⟨HU, HV, HFA, HFB, HF1, HF, HBW, c0, c1, c2, c3, c4, c5, c6, c7, HG, c8, c9⟩ := HH
 unfold InvStep
 have hu43 := Try.underlying43
 have hu45 := Try.underlying45
 obtain ⟨dst, op, ty, pos, after, guard⟩ := o
 simp only at hop hd hg
 subst hop hd hg
 obtain ⟨b0, b1, b2, b3, b4, b5, b6, b7, b8, b9, b10, b11, b12, b13, sv3, Av3, nv3, cv3, sv5, Av5, nv5, cv5, p6, sv7, Av7, nv7, cv7, v8, v9, p11, ⟨hl, HT, HS, E2, E3, E6, HB, FW3, FW5, FS6, FW7, FV8, FV9, FB11, FC6, FC8, FC9, FC12, FD6_11⟩⟩ := hI
 subst hl
 obtain rfl : b10 = false := hb
 obtain rfl : b8 = true := hn8
 obtain rfl : b7 = true := (FC8 rfl)
 have e20 := (HT.got 20 (v8) (by repeat (first | exact List.mem_cons_self .. | apply List.mem_cons_of_mem))).trans (congrArg some (FV8 rfl))
 go_simp
 exact ⟨b0, b1, b2, b3, b4, b5, b6, true, true, b9, true, b11, b12, b13, sv3, Av3, nv3, cv3, sv5, Av5, nv5, cv5, p6, sv7, Av7, nv7, cv7, v8, v9, p11, ⟨rfl, HT.put 10 30 _ rfl (show ([21, 22, 23, 24, 25, 26, 27, 28, 20, 29, 30, 7, 8] : List Nat).Nodup from by decide) (by rw [HS]; decide), HS, E2, E3, E6, HB, FW3, FW5, FS6, FW7, FV8, FV9, FB11, FC6, FC8, FC9, FC12, FD6_11⟩⟩
theorem InvA2_s11 (HH : InvA2H x y w0 W s A n c s' A' n' c' t B m d t' B' m' d' g6 sg Ag ng cg) (hop : o.op = .alloc 43) (hd : o.dst = some 7) (hg : o.guard = none) (hI : InvA2 x y w0 W s A n c s' A' n' c' t B m d t' B' m' d' g6 sg Ag ng cg base l a w) (hb : l.getD 11 true = false) : InvStep (InvA2 x y w0 W s A n c s' A' n' c' t B m d t' B' m' d' g6 sg Ag ng cg base) 11 o ops Q l a w := by
 obtain ⟨HU, HV, HFA, HFB, HF1, HF, HBW, c0, c1, c2, c3, c4, c5, c6, c7, HG, c8, c9⟩ := HH
 unfold InvStep
 have hu43 := Try.underlying43
 have hu45 := Try.underlying45
 obtain ⟨dst, op, ty, pos, after, guard⟩ := o
 simp only at hop hd hg
 subst hop hd hg
 obtain ⟨b0, b1, b2, b3, b4, b5, b6, b7, b8, b9, b10, b11, b12, b13, sv3, Av3, nv3, cv3, sv5, Av5, nv5, cv5, p6, sv7, Av7, nv7, cv7, v8, v9, p11, ⟨hl, HT, HS, E2, E3, E6, HB, FW3, FW5, FS6, FW7, FV8, FV9, FB11, FC6, FC8, FC9, FC12, FD6_11⟩⟩ := hI
 subst hl
 obtain rfl : b11 = false := hb
 obtain rfl : b12 = false := by
  cases b12 with
  | true => exact absurd (FC12 rfl).2.2 (by decide)
  | false => rfl
 go_simp
 exact ⟨b0, b1, b2, b3, b4, b5, b6, b7, b8, b9, b10, true, false, b13, sv3, Av3, nv3, cv3, sv5, Av5, nv5, cv5, p6, sv7, Av7, nv7, cv7, v8, v9, w.heap.size, ⟨rfl, HT.put 11 7 _ rfl (show ([21, 22, 23, 24, 25, 26, 27, 28, 20, 29, 30, 7, 8] : List Nat).Nodup from by decide) (by rw [HS]; decide), HS, E2, E3, E6, below_alloc HB _, (fun h => (FW3 h).below (below_alloc (Below.refl _ _) _)), (fun h => (FW5 h).below (below_alloc (Below.refl _ _) _)), (fun h => ⟨(FS6 h).1, blk_below (FS6 h).2 (below_alloc (Below.refl _ _) _)⟩), (fun h => (FW7 h).below (below_alloc (Below.refl _ _) _)), FV8, FV9, (fun _ => ⟨HB.size, blk_new w _⟩), FC6, FC8, FC9, (fun h => absurd h (by decide)), (fun h _ => Ne.symm (Nat.ne_of_gt (blk_lt (FS6 h).2)))⟩⟩
theorem InvA2_s12 (HH : InvA2H x y w0 W s A n c s' A' n' c' t B m d t' B' m' d' g6 sg Ag ng cg) (hop : o.op = .store 43 (.tmp 7) (.tmp 29)) (hd : o.dst = none) (hg : o.guard = none) (hI : InvA2 x y w0 W s A n c s' A' n' c' t B m d t' B' m' d' g6 sg Ag ng cg base l a w) (hb : l.getD 12 true = false) (hn9 : l.getD 9 false = true) (hn11 : l.getD 11 false = true) : InvStep (InvA2 x y w0 W s A n c s' A' n' c' t B m d t' B' m' d' g6 sg Ag ng cg base) 12 o ops Q l a w := by
 obtain ⟨HU, HV, HFA, HFB, HF1, HF, HBW, c0, c1, c2, c3, c4, c5, c6, c7, HG, c8, c9⟩ := HH
 unfold InvStep
 have hu43 := Try.underlying43
 have hu45 := Try.underlying45
 obtain ⟨dst, op, ty, pos, after, guard⟩ := o
 simp only at hop hd hg
 subst hop hd hg
 obtain ⟨b0, b1, b2, b3, b4, b5, b6, b7, b8, b9, b10, b11, b12, b13, sv3, Av3, nv3, cv3, sv5, Av5, nv5, cv5, p6, sv7, Av7, nv7, cv7, v8, v9, p11, ⟨hl, HT, HS, E2, E3, E6, HB, FW3, FW5, FS6, FW7, FV8, FV9, FB11, FC6, FC8, FC9, FC12, FD6_11⟩⟩ := hI
 subst hl
 obtain rfl : b12 = false := hb
 obtain rfl : b9 = true := hn9
 obtain rfl : b11 = true := hn11
 obtain rfl : b7 = true := (FC9 rfl).1
 obtain rfl : b8 = true := (FC9 rfl).2
 have e7 := HT.got 7 (.pointer (some ⟨p11, 0, none⟩)) (by repeat (first | exact List.mem_cons_self .. | apply List.mem_cons_of_mem))
 have e29 := (HT.got 29 (v9) (by repeat (first | exact List.mem_cons_self .. | apply List.mem_cons_of_mem))).trans (congrArg some (FV9 rfl))
 have hbk := (FB11 rfl).2
 have hge := (FB11 rfl).1
 have m0 : w.cell? ⟨p11, 0, none⟩ = some (.bool false) := blk_cell hbk 0
 have m1 : w.cell? ⟨p11, 1, none⟩ = some (.slice none 0 0) := blk_cell hbk 1
 have f0 := blk_frozen hbk 0
 have f1 := blk_frozen hbk 1
 have hk := IntKeep.set2 hbk sv7 Av7 nv7 cv7
 go_simp
 exact ⟨b0, b1, b2, b3, b4, b5, b6, true, true, true, b10, true, true, b13, sv3, Av3, nv3, cv3, sv5, Av5, nv5, cv5, p6, sv7, Av7, nv7, cv7, v8, v9, p11, ⟨rfl, HT, HS, E2, E3, E6, ((HB.setCell (p := ⟨p11, 0, none⟩) hge _).setCell (p := ⟨p11, 1, none⟩) hge _), (fun h => (FW3 h).keep hk), (fun h => (FW5 h).keep hk), (fun h => ⟨(FS6 h).1, blk_far (blk_far (FS6 h).2 (p := ⟨p11, 0, none⟩) (FD6_11 h rfl) _) (p := ⟨p11, 1, none⟩) (FD6_11 h rfl) _⟩), (fun h => (FW7 h).keep hk), FV8, FV9, (fun _ => ⟨hge, blk_put (blk_put hbk 0 _ rfl) 1 _ rfl⟩), FC6, FC8, FC9, (fun _ => ⟨rfl, rfl, rfl⟩), FD6_11⟩⟩
theorem InvA2_s13 (HH : InvA2H x y w0 W s A n c s' A' n' c' t B m d t' B' m' d' g6 sg Ag ng cg) (hop : o.op = .assign (.tmp 30)) (hd : o.dst = some 8) (hg : o.guard = none) (hI : InvA2 x y w0 W s A n c s' A' n' c' t B m d t' B' m' d' g6 sg Ag ng cg base l a w) (hb : l.getD 13 true = false) (hn10 : l.getD 10 false = true) : InvStep (InvA2 x y w0 W s A n c s' A' n' c' t B m d t' B' m' d' g6 sg Ag ng cg base) 13 o ops Q l a w := by
 obtain ⟨HU, HV, HFA, HFB, HF1, HF, HBW, c0, c1, c2, c3, c4, c5, c6, c7, HG, c8, c9⟩ := HH
 unfold InvStep
 have hu43 := Try.underlying43
 have hu45 := Try.underlying45
 obtain ⟨dst, op, ty, pos, after, guard⟩ := o
 simp only at hop hd hg
 subst hop hd hg
 obtain ⟨b0, b1, b2, b3, b4, b5, b6, b7, b8, b9, b10, b11, b12, b13, sv3, Av3, nv3, cv3, sv5, Av5, nv5, cv5, p6, sv7, Av7, nv7, cv7, v8, v9, p11, ⟨hl, HT, HS, E2, E3, E6, HB, FW3, FW5, FS6, FW7, FV8, FV9, FB11, FC6, FC8, FC9, FC12, FD6_11⟩⟩ := hI
 subst hl
 obtain rfl : b13 = false := hb
 obtain rfl : b10 = true := hn10
 have e30 := HT.got 30 (.int .i64 0) (by repeat (first | exact List.mem_cons_self .. | apply List.mem_cons_of_mem))
 go_simp
 exact ⟨b0, b1, b2, b3, b4, b5, b6, b7, b8, b9, true, b11, b12, true, sv3, Av3, nv3, cv3, sv5, Av5, nv5, cv5, p6, sv7, Av7, nv7, cv7, v8, v9, p11, ⟨rfl, HT.put 12 8 _ rfl (show ([21, 22, 23, 24, 25, 26, 27, 28, 20, 29, 30, 7, 8] : List Nat).Nodup from by decide) (by rw [HS]; decide), HS, E2, E3, E6, HB, FW3, FW5, FS6, FW7, FV8, FV9, FB11, FC6, FC8, FC9, FC12, FD6_11⟩⟩
structure InvA3F (x y : Int) (w0 W : World) (s : Bool) (A : Option Addr) (n c : Nat) (s' : Bool) (A' : Option Addr) (n' c' : Nat) (t : Bool) (B : Option Addr) (m d : Nat) (t' : Bool) (B' : Option Addr) (m' d' : Nat) (g6 : Nat) (sg : Bool) (Ag : Option Addr) (ng cg : Nat) (b0 b1 b2 b3 b4 b5 b6 b7 b8 b9 b10 b11 b12 b13 : Bool) (sv3 : Bool) (Av3 : Option Addr) (nv3 cv3 : Nat) (sv5 : Bool) (Av5 : Option Addr) (nv5 cv5 : Nat) (p6 : Nat) (sv7 : Bool) (Av7 : Option Addr) (nv7 cv7 : Nat) (v8 : Value) (v9 : Value) (p11 : Nat) (base : Array Value) (l : List Bool) (a : Act) (w : World) : Prop where
 hl : l = [b0, b1, b2, b3, b4, b5, b6, b7, b8, b9, b10, b11, b12, b13]
 HT : Tm a base [(b0, 32, .pointer (some ⟨w0.heap.size + 1, 0, none⟩)), (b1, 33, .agg #[.bool t, .slice B m d]), (b2, 34, .agg #[.bool s, .slice A n c, .bool s', .slice A' n' c']), (b3, 35, .agg #[.bool sv3, .slice Av3 nv3 cv3]), (b4, 36, .agg #[.bool sg, .slice Ag ng cg]), (b5, 37, .agg #[.bool sv5, .slice Av5 nv5 cv5]), (b6, 38, .slice (some ⟨p6, 0, none⟩) 2 2), (b7, 39, .tuple #[.agg #[.bool sv7, .slice Av7 nv7 cv7], .int .i64 0]), (b8, 31, v8), (b9, 40, v9), (b10, 41, .int .i64 0), (b11, 9, .pointer (some ⟨p11, 0, none⟩)), (b13, 10, .int .i64 0)]
 HS : base.size = 79
 E2 : base[2]? = some (.pointer (some ⟨w0.heap.size, 0, none⟩))
 E3 : base[3]? = some (.pointer (some ⟨w0.heap.size + 1, 0, none⟩))
 E6 : base[6]? = some (.pointer (some ⟨g6, 0, none⟩))
 HB : Below W.heap.size W w
 FW3 : (b3 = true → WI w (.agg #[.bool sv3, .slice Av3 nv3 cv3]) (1))
 FW5 : (b5 = true → WI w (.agg #[.bool sv5, .slice Av5 nv5 cv5]) (1))
 FS6 : (b6 = true → W.heap.size ≤ p6 ∧ w.heap[p6]? = some (.cells #[.bool t, .slice B m d, .bool sv5, .slice Av5 nv5 cv5] 43 (0, 0)))
 FW7 : (b7 = true → WI w (.agg #[.bool sv7, .slice Av7 nv7 cv7]) (y))
 FV8 : (b8 = true → v8 = .tuple #[.agg #[.bool sv7, .slice Av7 nv7 cv7], .int .i64 0])
 FV9 : (b9 = true → v9 = .agg #[.bool sv7, .slice Av7 nv7 cv7])
 FB11 : (b11 = true → W.heap.size ≤ p11 ∧ w.heap[p11]? = some (.cells (if b12 then #[.bool sv7, .slice Av7 nv7 cv7] else #[.bool false, .slice none 0 0]) 43 (0, 0)))
 FC6 : (b6 = true → b1 = true ∧ b5 = true)
 FC8 : (b8 = true → b7 = true)
 FC9 : (b9 = true → b7 = true ∧ b8 = true)
 FC12 : (b12 = true → b7 = true ∧ b9 = true ∧ b11 = true)
 FD6_11 : (b6 = true → b11 = true → p6 ≠ p11)
def InvA3 (x y : Int) (w0 W : World) (s : Bool) (A : Option Addr) (n c : Nat) (s' : Bool) (A' : Option Addr) (n' c' : Nat) (t : Bool) (B : Option Addr) (m d : Nat) (t' : Bool) (B' : Option Addr) (m' d' : Nat) (g6 : Nat) (sg : Bool) (Ag : Option Addr) (ng cg : Nat) (base : Array Value) (l : List Bool) (a : Act) (w : World) : Prop := ∃ (b0 b1 b2 b3 b4 b5 b6 b7 b8 b9 b10 b11 b12 b13 : Bool) (sv3 : Bool) (Av3 : Option Addr) (nv3 cv3 : Nat) (sv5 : Bool) (Av5 : Option Addr) (nv5 cv5 : Nat) (p6 : Nat) (sv7 : Bool) (Av7 : Option Addr) (nv7 cv7 : Nat) (v8 : Value) (v9 : Value) (p11 : Nat), InvA3F x y w0 W s A n c s' A' n' c' t B m d t' B' m' d' g6 sg Ag ng cg b0 b1 b2 b3 b4 b5 b6 b7 b8 b9 b10 b11 b12 b13 sv3 Av3 nv3 cv3 sv5 Av5 nv5 cv5 p6 sv7 Av7 nv7 cv7 v8 v9 p11 base l a w
structure InvA3H (x y : Int) (w0 W : World) (s : Bool) (A : Option Addr) (n c : Nat) (s' : Bool) (A' : Option Addr) (n' c' : Nat) (t : Bool) (B : Option Addr) (m d : Nat) (t' : Bool) (B' : Option Addr) (m' d' : Nat) (g6 : Nat) (sg : Bool) (Ag : Option Addr) (ng cg : Nat) : Prop where
 HU : Aside0 (WI w0 (.agg #[.bool s, .slice A n c]) x ∧ WI w0 (.agg #[.bool s', .slice A' n' c']) 0)
 HV : Aside0 (WI w0 (.agg #[.bool t, .slice B m d]) y ∧ WI w0 (.agg #[.bool t', .slice B' m' d']) 0)
 HFA : Aside0 (FI w0 (.agg #[.bool s, .slice A n c, .bool s', .slice A' n' c']) x)
 HFB : Aside0 (FI w0 (.agg #[.bool t, .slice B m d, .bool t', .slice B' m' d']) y)
 HF1 : Aside0 (Fit 1)
 HF : Aside0 (Fit x ∧ Fit y ∧ Fit (x + y) ∧ Fit (x * 1) ∧ Fit (y * 1) ∧ Fit (1 * 1))
 HBW : Aside0 (Below w0.heap.size w0 W)
 c0 : Aside0 (W.cell? ⟨w0.heap.size, 0, none⟩ = some (.bool s))
 c1 : Aside0 (W.cell? ⟨w0.heap.size, 1, none⟩ = some (.slice A n c))
 c2 : Aside0 (W.cell? ⟨w0.heap.size, 2, none⟩ = some (.bool s'))
 c3 : Aside0 (W.cell? ⟨w0.heap.size, 3, none⟩ = some (.slice A' n' c'))
 c4 : Aside0 (W.cell? ⟨w0.heap.size + 1, 0, none⟩ = some (.bool t))
 c5 : Aside0 (W.cell? ⟨w0.heap.size + 1, 1, none⟩ = some (.slice B m d))
 c6 : Aside0 (W.cell? ⟨w0.heap.size + 1, 2, none⟩ = some (.bool t'))
 c7 : Aside0 (W.cell? ⟨w0.heap.size + 1, 3, none⟩ = some (.slice B' m' d'))
 HG : Aside0 (W.heap[g6]? = some (.cells #[.bool sg, .slice Ag ng cg] 43 (0, 0)) ∧ WI W (.agg #[.bool sg, .slice Ag ng cg]) 1)
 c8 : Aside0 (W.cell? ⟨g6, 0, none⟩ = some (.bool sg))
 c9 : Aside0 (W.cell? ⟨g6, 1, none⟩ = some (.slice Ag ng cg))
theorem InvA3_s0 (HH : InvA3H x y w0 W s A n c s' A' n' c' t B m d t' B' m' d' g6 sg Ag ng cg) (hop : o.op = .fieldAddr 45 (.tmp 3) 0) (hd : o.dst = some 32) (hg : o.guard = none) (hI : InvA3 x y w0 W s A n c s' A' n' c' t B m d t' B' m' d' g6 sg Ag ng cg base l a w) (hb : l.getD 0 true = false) : InvStep (InvA3 x y w0 W s A n c s' A' n' c' t B m d t' B' m' d' g6 sg Ag ng cg base) 0 o ops Q l a w := by
 obtain ⟨HU, HV, HFA, HFB, HF1, HF, HBW, c0, c1, c2, c3, c4, c5, c6, c7, HG, c8, c9⟩ := HH
 unfold InvStep
 have hu43 := Try.underlying43
 have hu45 := Try.underlying45
 obtain ⟨dst, op, ty, pos, after, guard⟩ := o
 simp only at hop hd hg
 subst hop hd hg
 obtain ⟨b0, b1, b2, b3, b4, b5, b6, b7, b8, b9, b10, b11, b12, b13, sv3, Av3, nv3, cv3, sv5, Av5, nv5, cv5, p6, sv7, Av7, nv7, cv7, v8, v9, p11, ⟨hl, HT, HS, E2, E3, E6, HB, FW3, FW5, FS6, FW7, FV8, FV9, FB11, FC6, FC8, FC9, FC12, FD6_11⟩⟩ := hI
 subst hl
 obtain rfl : b0 = false := hb
 have e3 := HT.base_ 3 _ (by simp) E3
 go_simp
 exact ⟨true, b1, b2, b3, b4, b5, b6, b7, b8, b9, b10, b11, b12, b13, sv3, Av3, nv3, cv3, sv5, Av5, nv5, cv5, p6, sv7, Av7, nv7, cv7, v8, v9, p11, ⟨rfl, HT.put 0 32 _ rfl (show ([32, 33, 34, 35, 36, 37, 38, 39, 31, 40, 41, 9, 10] : List Nat).Nodup from by decide) (by rw [HS]; decide), HS, E2, E3, E6, HB, FW3, FW5, FS6, FW7, FV8, FV9, FB11, FC6, FC8, FC9, FC12, FD6_11⟩⟩
theorem InvA3_s1 (HH : InvA3H x y w0 W s A n c s' A' n' c' t B m d t' B' m' d' g6 sg Ag ng cg) (hop : o.op = .load 43 (.tmp 32)) (hd : o.dst = some 33) (hg : o.guard = none) (hI : InvA3 x y w0 W s A n c s' A' n' c' t B m d t' B' m' d' g6 sg Ag ng cg base l a w) (hb : l.getD 1 true = false) (hn0 : l.getD 0 false = true) : InvStep (InvA3 x y w0 W s A n c s' A' n' c' t B m d t' B' m' d' g6 sg Ag ng cg base) 1 o ops Q l a w := by
 obtain ⟨HU, HV, HFA, HFB, HF1, HF, HBW, c0, c1, c2, c3, c4, c5, c6, c7, HG, c8, c9⟩ := HH
 unfold InvStep
 have hu43 := Try.underlying43
 have hu45 := Try.underlying45
 obtain ⟨dst, op, ty, pos, after, guard⟩ := o
 simp only at hop hd hg
 subst hop hd hg
 obtain ⟨b0, b1, b2, b3, b4, b5, b6, b7, b8, b9, b10, b11, b12, b13, sv3, Av3, nv3, cv3, sv5, Av5, nv5, cv5, p6, sv7, Av7, nv7, cv7, v8, v9, p11, ⟨hl, HT, HS, E2, E3, E6, HB, FW3, FW5, FS6, FW7, FV8, FV9, FB11, FC6, FC8, FC9, FC12, FD6_11⟩⟩ := hI
 subst hl
 obtain rfl : b1 = false := hb
 obtain rfl : b0 = true := hn0
 obtain rfl : b6 = false := by
  cases b6 with
  | true => exact absurd (FC6 rfl).1 (by decide)
  | false => rfl
 have e32 := HT.got 32 (.pointer (some ⟨w0.heap.size + 1, 0, none⟩)) (by repeat (first | exact List.mem_cons_self .. | apply List.mem_cons_of_mem))
 have kc4 := pw_cell_below HB c4.out
 have kc5 := pw_cell_below HB c5.out
 go_simp
 exact ⟨true, true, b2, b3, b4, b5, false, b7, b8, b9, b10, b11, b12, b13, sv3, Av3, nv3, cv3, sv5, Av5, nv5, cv5, p6, sv7, Av7, nv7, cv7, v8, v9, p11, ⟨rfl, HT.put 1 33 _ rfl (show ([32, 33, 34, 35, 36, 37, 38, 39, 31, 40, 41, 9, 10] : List Nat).Nodup from by decide) (by rw [HS]; decide), HS, E2, E3, E6, HB, FW3, FW5, (fun h => absurd h (by decide)), FW7, FV8, FV9, FB11, (fun h => absurd h (by decide)), FC8, FC9, FC12, FD6_11⟩⟩
theorem InvA3_s2 (HH : InvA3H x y w0 W s A n c s' A' n' c' t B m d t' B' m' d' g6 sg Ag ng cg) (hop : o.op = .load 45 (.tmp 2)) (hd : o.dst = some 34) (hg : o.guard = none) (hI : InvA3 x y w0 W s A n c s' A' n' c' t B m d t' B' m' d' g6 sg Ag ng cg base l a w) (hb : l.getD 2 true = false) : InvStep (InvA3 x y w0 W s A n c s' A' n' c' t B m d t' B' m' d' g6 sg Ag ng cg base) 2 o ops Q l a w := by
 obtain ⟨HU, HV, HFA, HFB, HF1, HF, HBW, c0, c1, c2, c3, c4, c5, c6, c7, HG, c8, c9⟩ := HH
 unfold InvStep
 have hu43 := Try.underlying43
 have hu45 := Try.underlying45
 obtain ⟨dst, op, ty, pos, after, guard⟩ := o
 simp only at hop hd hg
 subst hop hd hg
 obtain ⟨b0, b1, b2, b3, b4, b5, b6, b7, b8, b9, b10, b11, b12, b13, sv3, Av3, nv3, cv3, sv5, Av5, nv5, cv5, p6, sv7, Av7, nv7, cv7, v8, v9, p11, ⟨hl, HT, HS, E2, E3, E6, HB, FW3, FW5, FS6, FW7, FV8, FV9, FB11, FC6, FC8, FC9, FC12, FD6_11⟩⟩ := hI
 subst hl
 obtain rfl : b2 = false := hb
 have e2 := HT.base_ 2 _ (by simp) E2
 have kc0 := pw_cell_below HB c0.out
 have kc1 := pw_cell_below HB c1.out
 have kc2 := pw_cell_below HB c2.out
 have kc3 := pw_cell_below HB c3.out
 go_simp
 exact ⟨b0, b1, true, b3, b4, b5, b6, b7, b8, b9, b10, b11, b12, b13, sv3, Av3, nv3, cv3, sv5, Av5, nv5, cv5, p6, sv7, Av7, nv7, cv7, v8, v9, p11, ⟨rfl, HT.put 2 34 _ rfl (show ([32, 33, 34, 35, 36, 37, 38, 39, 31, 40, 41, 9, 10] : List Nat).Nodup from by decide) (by rw [HS]; decide), HS, E2, E3, E6, HB, FW3, FW5, FS6, FW7, FV8, FV9, FB11, FC6, FC8, FC9, FC12, FD6_11⟩⟩
theorem InvA3_s3 (HH : InvA3H x y w0 W s A n c s' A' n' c' t B m d t' B' m' d' g6 sg Ag ng cg) (hop : o.op = .call { callee := .value (.func 46), args := #[.tmp 34], argTypes := #[45] }) (hd : o.dst = some 35) (hg : o.guard = none) (hI : InvA3 x y w0 W s A n c s' A' n' c' t B m d t' B' m' d' g6 sg Ag ng cg base l a w) (hb : l.getD 3 true = false) (hn2 : l.getD 2 false = true) : InvStep (InvA3 x y w0 W s A n c s' A' n' c' t B m d t' B' m' d' g6 sg Ag ng cg base) 3 o ops Q l a w := by
 obtain ⟨HU, HV, HFA, HFB, HF1, HF, HBW, c0, c1, c2, c3, c4, c5, c6, c7, HG, c8, c9⟩ := HH
 unfold InvStep
 have hu43 := Try.underlying43
 have hu45 := Try.underlying45
 obtain ⟨dst, op, ty, pos, after, guard⟩ := o
 simp only at hop hd hg
 subst hop hd hg
 obtain ⟨b0, b1, b2, b3, b4, b5, b6, b7, b8, b9, b10, b11, b12, b13, sv3, Av3, nv3, cv3, sv5, Av5, nv5, cv5, p6, sv7, Av7, nv7, cv7, v8, v9, p11, ⟨hl, HT, HS, E2, E3, E6, HB, FW3, FW5, FS6, FW7, FV8, FV9, FB11, FC6, FC8, FC9, FC12, FD6_11⟩⟩ := hI
 subst hl
 obtain rfl : b3 = false := hb
 obtain rfl : b2 = true := hn2
 have e34 := HT.got 34 (.agg #[.bool s, .slice A n c, .bool s', .slice A' n' c']) (by repeat (first | exact List.mem_cons_self .. | apply List.mem_cons_of_mem))
 go_simp
 go_at_call 46
 refine (Den_calls _ x _ ((HFA.out.below HBW.out).below HB)).mono ?_
 rintro e w2 ⟨v2, rfl, hX, hb2⟩
 obtain ⟨sn, An, nn, cn, rfl, HX⟩ := hX.parts
 exact ⟨b0, b1, true, true, b4, b5, b6, b7, b8, b9, b10, b11, b12, b13, sn, An, nn, cn, sv5, Av5, nv5, cv5, p6, sv7, Av7, nv7, cv7, v8, v9, p11, ⟨rfl, HT.put 3 35 _ rfl (show ([32, 33, 34, 35, 36, 37, 38, 39, 31, 40, 41, 9, 10] : List Nat).Nodup from by decide) (by rw [HS]; decide), HS, E2, E3, E6, below_step HB hb2, (fun _ => HX.out), (fun h => (FW5 h).below hb2), (fun h => ⟨(FS6 h).1, blk_below (FS6 h).2 hb2⟩), (fun h => (FW7 h).below hb2), FV8, FV9, (fun h => ⟨(FB11 h).1, blk_below (FB11 h).2 hb2⟩), FC6, FC8, FC9, FC12, FD6_11⟩⟩
theorem InvA3_s4 (HH : InvA3H x y w0 W s A n c s' A' n' c' t B m d t' B' m' d' g6 sg Ag ng cg) (hop : o.op = .load 43 (.tmp 6)) (hd : o.dst = some 36) (hg : o.guard = none) (hI : InvA3 x y w0 W s A n c s' A' n' c' t B m d t' B' m' d' g6 sg Ag ng cg base l a w) (hb : l.getD 4 true = false) : InvStep (InvA3 x y w0 W s A n c s' A' n' c' t B m d t' B' m' d' g6 sg Ag ng cg base) 4 o ops Q l a w := by
 obtain ⟨HU, HV, HFA, HFB, HF1, HF, HBW, c0, c1, c2, c3, c4, c5, c6, c7, HG, c8, c9⟩ := HH
 unfold InvStep
 have hu43 := Try.underlying43
 have hu45 := Try.underlying45
 obtain ⟨dst, op, ty, pos, after, guard⟩ := o
 simp only at hop hd hg
 subst hop hd hg
 obtain ⟨b0, b1, b2, b3, b4, b5, b6, b7, b8, b9, b10, b11, b12, b13, sv3, Av3, nv3, cv3, sv5, Av5, nv5, cv5, p6, sv7, Av7, nv7, cv7, v8, v9, p11, ⟨hl, HT, HS, E2, E3, E6, HB, FW3, FW5, FS6, FW7, FV8, FV9, FB11, FC6, FC8, FC9, FC12, FD6_11⟩⟩ := hI
 subst hl
 obtain rfl : b4 = false := hb
 have e6 := HT.base_ 6 _ (by simp) E6
 have kc8 := pw_cell_below HB c8.out
 have kc9 := pw_cell_below HB c9.out
 go_simp
 exact ⟨b0, b1, b2, b3, true, b5, b6, b7, b8, b9, b10, b11, b12, b13, sv3, Av3, nv3, cv3, sv5, Av5, nv5, cv5, p6, sv7, Av7, nv7, cv7, v8, v9, p11, ⟨rfl, HT.put 4 36 _ rfl (show ([32, 33, 34, 35, 36, 37, 38, 39, 31, 40, 41, 9, 10] : List Nat).Nodup from by decide) (by rw [HS]; decide), HS, E2, E3, E6, HB, FW3, FW5, FS6, FW7, FV8, FV9, FB11, FC6, FC8, FC9, FC12, FD6_11⟩⟩
theorem InvA3_s5 (HH : InvA3H x y w0 W s A n c s' A' n' c' t B m d t' B' m' d' g6 sg Ag ng cg) (hop : o.op = .call { callee := .value (.func 62), args := #[.tmp 35, .tmp 36], argTypes := #[43, 43] }) (hd : o.dst = some 37) (hg : o.guard = none) (hI : InvA3 x y w0 W s A n c s' A' n' c' t B m d t' B' m' d' g6 sg Ag ng cg base l a w) (hb : l.getD 5 true = false) (hn3 : l.getD 3 false = true) (hn4 : l.getD 4 false = true) : InvStep (InvA3 x y w0 W s A n c s' A' n' c' t B m d t' B' m' d' g6 sg Ag ng cg base) 5 o ops Q l a w := by
 obtain ⟨HU, HV, HFA, HFB, HF1, HF, HBW, c0, c1, c2, c3, c4, c5, c6, c7, HG, c8, c9⟩ := HH
 unfold InvStep
 have hu43 := Try.underlying43
 have hu45 := Try.underlying45
 obtain ⟨dst, op, ty, pos, after, guard⟩ := o
 simp only at hop hd hg
 subst hop hd hg
 obtain ⟨b0, b1, b2, b3, b4, b5, b6, b7, b8, b9, b10, b11, b12, b13, sv3, Av3, nv3, cv3, sv5, Av5, nv5, cv5, p6, sv7, Av7, nv7, cv7, v8, v9, p11, ⟨hl, HT, HS, E2, E3, E6, HB, FW3, FW5, FS6, FW7, FV8, FV9, FB11, FC6, FC8, FC9, FC12, FD6_11⟩⟩ := hI
 subst hl
 obtain rfl : b5 = false := hb
 obtain rfl : b3 = true := hn3
 obtain rfl : b4 = true := hn4
 obtain rfl : b6 = false := by
  cases b6 with
  | true => exact absurd (FC6 rfl).2 (by decide)
  | false => rfl
 have e35 := HT.got 35 (.agg #[.bool sv3, .slice Av3 nv3 cv3]) (by repeat (first | exact List.mem_cons_self .. | apply List.mem_cons_of_mem))
 have e36 := HT.got 36 (.agg #[.bool sg, .slice Ag ng cg]) (by repeat (first | exact List.mem_cons_self .. | apply List.mem_cons_of_mem))
 go_simp
 go_at_call 62
 refine (over_calls _ _ 1 1 _ (FW3 rfl) (HG.out.2.below HB) HF1.out (by decide) (by decide)).mono ?_
 rintro e w2 ⟨v2, rfl, hX, hb2⟩
 rw [Int.ediv_one] at hX
 obtain ⟨sn, An, nn, cn, rfl, HX⟩ := hX.parts
 exact ⟨b0, b1, b2, true, true, true, false, b7, b8, b9, b10, b11, b12, b13, sv3, Av3, nv3, cv3, sn, An, nn, cn, p6, sv7, Av7, nv7, cv7, v8, v9, p11, ⟨rfl, HT.put 5 37 _ rfl (show ([32, 33, 34, 35, 36, 37, 38, 39, 31, 40, 41, 9, 10] : List Nat).Nodup from by decide) (by rw [HS]; decide), HS, E2, E3, E6, below_step HB hb2, (fun h => (FW3 h).below hb2), (fun _ => HX.out), (fun h => absurd h (by decide)), (fun h => (FW7 h).below hb2), FV8, FV9, (fun h => ⟨(FB11 h).1, blk_below (FB11 h).2 hb2⟩), (fun h => absurd h (by decide)), FC8, FC9, FC12, FD6_11⟩⟩
theorem InvA3_s6 (HH : InvA3H x y w0 W s A n c s' A' n' c' t B m d t' B' m' d' g6 sg Ag ng cg) (hop : o.op = .buildSlice 123 2 #[(0, .tmp 33), (1, .tmp 37)]) (hd : o.dst = some 38) (hg : o.guard = none) (hI : InvA3 x y w0 W s A n c s' A' n' c' t B m d t' B' m' d' g6 sg Ag ng cg base l a w) (hb : l.getD 6 true = false) (hn1 : l.getD 1 false = true) (hn5 : l.getD 5 false = true) : InvStep (InvA3 x y w0 W s A n c s' A' n' c' t B m d t' B' m' d' g6 sg Ag ng cg base) 6 o ops Q l a w := by
 obtain ⟨HU, HV, HFA, HFB, HF1, HF, HBW, c0, c1, c2, c3, c4, c5, c6, c7, HG, c8, c9⟩ := HH
 unfold InvStep
 have hu43 := Try.underlying43
 have hu45 := Try.underlying45
 obtain ⟨dst, op, ty, pos, after, guard⟩ := o
 simp only at hop hd hg
 subst hop hd hg
 obtain ⟨b0, b1, b2, b3, b4, b5, b6, b7, b8, b9, b10, b11, b12, b13, sv3, Av3, nv3, cv3, sv5, Av5, nv5, cv5, p6, sv7, Av7, nv7, cv7, v8, v9, p11, ⟨hl, HT, HS, E2, E3, E6, HB, FW3, FW5, FS6, FW7, FV8, FV9, FB11, FC6, FC8, FC9, FC12, FD6_11⟩⟩ := hI
 subst hl
 obtain rfl : b6 = false := hb
 obtain rfl : b1 = true := hn1
 obtain rfl : b5 = true := hn5
 have e33 := HT.got 33 (.agg #[.bool t, .slice B m d]) (by repeat (first | exact List.mem_cons_self .. | apply List.mem_cons_of_mem))
 have e37 := HT.got 37 (.agg #[.bool sv5, .slice Av5 nv5 cv5]) (by repeat (first | exact List.mem_cons_self .. | apply List.mem_cons_of_mem))
 go_simp
 exact ⟨b0, true, b2, b3, b4, true, true, b7, b8, b9, b10, b11, b12, b13, sv3, Av3, nv3, cv3, sv5, Av5, nv5, cv5, w.heap.size, sv7, Av7, nv7, cv7, v8, v9, p11, ⟨rfl, HT.put 6 38 _ rfl (show ([32, 33, 34, 35, 36, 37, 38, 39, 31, 40, 41, 9, 10] : List Nat).Nodup from by decide) (by rw [HS]; decide), HS, E2, E3, E6, below_alloc HB _, (fun h => (FW3 h).below (below_alloc (Below.refl _ _) _)), (fun h => (FW5 h).below (below_alloc (Below.refl _ _) _)), (fun _ => ⟨HB.size, blk_new w _⟩), (fun h => (FW7 h).below (below_alloc (Below.refl _ _) _)), FV8, FV9, (fun h => ⟨(FB11 h).1, blk_below (FB11 h).2 (below_alloc (Below.refl _ _) _)⟩), (fun _ => ⟨rfl, rfl⟩), FC8, FC9, FC12, (fun _ h => Nat.ne_of_gt (blk_lt (FB11 h).2))⟩⟩
theorem InvA3_s7 (HH : InvA3H x y w0 W s A n c s' A' n' c' t B m d t' B' m' d' g6 sg Ag ng cg) (hop : o.op = .call { callee := .value (.func 75), args := #[.tmp 38], argTypes := #[123] }) (hd : o.dst = some 39) (hg : o.guard = none) (hI : InvA3 x y w0 W s A n c s' A' n' c' t B m d t' B' m' d' g6 sg Ag ng cg base l a w) (hb : l.getD 7 true = false) (hn6 : l.getD 6 false = true) (hn5 : l.getD 5 false = true) : InvStep (InvA3 x y w0 W s A n c s' A' n' c' t B m d t' B' m' d' g6 sg Ag ng cg base) 7 o ops Q l a w := by
 obtain ⟨HU, HV, HFA, HFB, HF1, HF, HBW, c0, c1, c2, c3, c4, c5, c6, c7, HG, c8, c9⟩ := HH
 unfold InvStep
 have hu43 := Try.underlying43
 have hu45 := Try.underlying45
 obtain ⟨dst, op, ty, pos, after, guard⟩ := o
 simp only at hop hd hg
 subst hop hd hg
 obtain ⟨b0, b1, b2, b3, b4, b5, b6, b7, b8, b9, b10, b11, b12, b13, sv3, Av3, nv3, cv3, sv5, Av5, nv5, cv5, p6, sv7, Av7, nv7, cv7, v8, v9, p11, ⟨hl, HT, HS, E2, E3, E6, HB, FW3, FW5, FS6, FW7, FV8, FV9, FB11, FC6, FC8, FC9, FC12, FD6_11⟩⟩ := hI
 subst hl
 obtain rfl : b7 = false := hb
 obtain rfl : b6 = true := hn6
 obtain rfl : b5 = true := hn5
 obtain rfl : b1 = true := (FC6 rfl).1
 obtain rfl : b8 = false := by
  cases b8 with
  | true => exact absurd (FC8 rfl) (by decide)
  | false => rfl
 obtain rfl : b9 = false := by
  cases b9 with
  | true => exact absurd (FC9 rfl).1 (by decide)
  | false => rfl
 obtain rfl : b12 = false := by
  cases b12 with
  | true => exact absurd (FC12 rfl).1 (by decide)
  | false => rfl
 have e38 := HT.got 38 (.slice (some ⟨p6, 0, none⟩) 2 2) (by repeat (first | exact List.mem_cons_self .. | apply List.mem_cons_of_mem))
 go_simp
 go_at_call 75
 refine (ftimes_calls p6 t B m d sv5 Av5 nv5 cv5 y 1 _ (FS6 rfl).2 ((HV.out.1.below HBW.out).below HB) (FW5 rfl) HF.out.2.1 HF1.out HF.out.2.2.2.2.1).mono ?_
 rintro e w2 ⟨v2, rfl, hX, hb2⟩
 rw [Int.mul_one] at hX
 obtain ⟨sn, An, nn, cn, rfl, HX⟩ := hX.parts
 exact ⟨b0, true, b2, b3, b4, true, true, true, false, false, b10, b11, false, b13, sv3, Av3, nv3, cv3, sv5, Av5, nv5, cv5, p6, sn, An, nn, cn, v8, v9, p11, ⟨rfl, HT.put 7 39 _ rfl (show ([32, 33, 34, 35, 36, 37, 38, 39, 31, 40, 41, 9, 10] : List Nat).Nodup from by decide) (by rw [HS]; decide), HS, E2, E3, E6, below_step HB hb2, (fun h => (FW3 h).below hb2), (fun h => (FW5 h).below hb2), (fun h => ⟨(FS6 h).1, blk_below (FS6 h).2 hb2⟩), (fun _ => HX.out), (fun h => absurd h (by decide)), (fun h => absurd h (by decide)), (fun h => ⟨(FB11 h).1, blk_below (FB11 h).2 hb2⟩), FC6, (fun h => absurd h (by decide)), (fun h => absurd h (by decide)), (fun h => absurd h (by decide)), FD6_11⟩⟩
theorem InvA3_s8 (HH : InvA3H x y w0 W s A n c s' A' n' c' t B m d t' B' m' d' g6 sg Ag ng cg) (hop : o.op = .move (.tmp 39)) (hd : o.dst = some 31) (hg : o.guard = none) (hI : InvA3 x y w0 W s A n c s' A' n' c' t B m d t' B' m' d' g6 sg Ag ng cg base l a w) (hb : l.getD 8 true = false) (hn7 : l.getD 7 false = true) : InvStep (InvA3 x y w0 W s A n c s' A' n' c' t B m d t' B' m' d' g6 sg Ag ng cg base) 8 o ops Q l a w := by
 obtain ⟨HU, HV, HFA, HFB, HF1, HF, HBW, c0, c1, c2, c3, c4, c5, c6, c7, HG, c8, c9⟩ := HH
 unfold InvStep
 have hu43 := Try.underlying43
 have hu45 := Try.underlying45
 obtain ⟨dst, op, ty, pos, after, guard⟩ := o
 simp only at hop hd hg
 subst hop hd hg
 obtain ⟨b0, b1, b2, b3, b4, b5, b6, b7, b8, b9, b10, b11, b12, b13, sv3, Av3, nv3, cv3, sv5, Av5, nv5, cv5, p6, sv7, Av7, nv7, cv7, v8, v9, p11, ⟨hl, HT, HS, E2, E3, E6, HB, FW3, FW5, FS6, FW7, FV8, FV9, FB11, FC6, FC8, FC9, FC12, FD6_11⟩⟩ := hI
 subst hl
 obtain rfl : b8 = false := hb
 obtain rfl : b7 = true := hn7
 obtain rfl : b9 = false := by
  cases b9 with
  | true => exact absurd (FC9 rfl).2 (by decide)
  | false => rfl
 have e39 := HT.got 39 (.tuple #[.agg #[.bool sv7, .slice Av7 nv7 cv7], .int .i64 0]) (by repeat (first | exact List.mem_cons_self .. | apply List.mem_cons_of_mem))
 go_simp
 exact ⟨b0, b1, b2, b3, b4, b5, b6, true, true, false, b10, b11, b12, b13, sv3, Av3, nv3, cv3, sv5, Av5, nv5, cv5, p6, sv7, Av7, nv7, cv7, _, v9, p11, ⟨rfl, HT.put 8 31 _ rfl (show ([32, 33, 34, 35, 36, 37, 38, 39, 31, 40, 41, 9, 10] : List Nat).Nodup from by decide) (by rw [HS]; decide), HS, E2, E3, E6, HB, FW3, FW5, FS6, FW7, (fun _ => rfl), (fun h => absurd h (by decide)), FB11, FC6, (fun _ => rfl), (fun h => absurd h (by decide)), FC12, FD6_11⟩⟩
theorem InvA3_s9 (HH : InvA3H x y w0 W s A n c s' A' n' c' t B m d t' B' m' d' g6 sg Ag ng cg) (hop : o.op = .extract (.tmp 31) 0) (hd : o.dst = some 40) (hg : o.guard = none) (hI : InvA3 x y w0 W s A n c s' A' n' c' t B m d t' B' m' d' g6 sg Ag ng cg base l a w) (hb : l.getD 9 true = false) (hn8 : l.getD 8 false = true) : InvStep (InvA3 x y w0 W s A n c s' A' n' c' t B m d t' B' m' d' g6 sg Ag ng cg base) 9 o ops Q l a w := by
 obtain ⟨HU, HV, HFA, HFB, HF1, HF, HBW, c0, c1, c2, c3, c4, c5, c6, c7, HG, c8, c9⟩ := HH
 unfold InvStep
 have hu43 := Try.underlying43
 have hu45 := Try.underlying45
 obtain ⟨dst, op, ty, pos, after, guard⟩ := o
 simp only at hop hd hg
 subst hop hd hg
 obtain ⟨b0, b1, b2, b3, b4, b5, b6, b7, b8, b9, b10, b11, b12, b13, sv3, Av3, nv3, cv3, sv5, Av5, nv5, cv5, p6, sv7, Av7, nv7, cv7, v8, v9, p11, ⟨hl, HT, HS, E2, E3, E6, HB, FW3, FW5, FS6, FW7, FV8, FV9, FB11, FC6, FC8, FC9, FC12, FD6_11⟩⟩ := hI
 subst hl
 obtain rfl : b9 = false := hb
 obtain rfl : b8 = true := hn8
 obtain rfl : b7 = true := (FC8 rfl)
 obtain rfl : b12 = false := by
  cases b12 with
  | true => exact absurd (FC12 rfl).2.1 (by decide)
  | false => rfl
 have e31 := (HT.got 31 (v8) (by repeat (first | exact List.mem_cons_self .. | apply List.mem_cons_of_mem))).trans (congrArg some (FV8 rfl))
 go_simp
 exact ⟨b0, b1, b2, b3, b4, b5, b6, true, true, true, b10, b11, false, b13, sv3, Av3, nv3, cv3, sv5, Av5, nv5, cv5, p6, sv7, Av7, nv7, cv7, v8, _, p11, ⟨rfl, HT.put 9 40 _ rfl (show ([32, 33, 34, 35, 36, 37, 38, 39, 31, 40, 41, 9, 10] : List Nat).Nodup from by decide) (by rw [HS]; decide), HS, E2, E3, E6, HB, FW3, FW5, FS6, FW7, FV8, (fun _ => rfl), FB11, FC6, FC8, (fun _ => ⟨rfl, rfl⟩), (fun h => absurd h (by decide)), FD6_11⟩⟩
theorem InvA3_s10 (HH : InvA3H x y w0 W s A n c s' A' n' c' t B m d t' B' m' d' g6 sg Ag ng cg) (hop : o.op = .extract (.tmp 31) 1) (hd : o.dst = some 41) (hg : o.guard = none) (hI : InvA3 x y w0 W s A n c s' A' n' c' t B m d t' B' m' d' g6 sg Ag ng cg base l a w) (hb : l.getD 10 true = false) (hn8 : l.getD 8 false = true) : InvStep (InvA3 x y w0 W s A n c s' A' n' c' t B m d t' B' m' d' g6 sg Ag ng cg base) 10 o ops Q l a w := by
 obtain ⟨HU, HV, HFA, HFB, HF1, HF, HBW, c0, c1, c2, c3, c4, c5, c6, c7, HG, c8, c9⟩ := HH
 unfold InvStep
 have hu43 := Try.underlying43
 have hu45 := Try.underlying45
 obtain ⟨dst, op, ty, pos, after, guard⟩ := o
 simp only at hop hd hg
 subst hop hd hg
 obtain ⟨b0, b1, b2, b3, b4, b5, b6, b7, b8, b9, b10, b11, b12, b13, sv3, Av3, nv3, cv3, sv5, Av5, nv5, cv5, p6, sv7, Av7, nv7, cv7, v8, v9, p11, ⟨hl, HT, HS, E2, E3, E6, HB, FW3, FW5, FS6, FW7, FV8, FV9, FB11, FC6, FC8, FC9, FC12, FD6_11⟩⟩ := hI
 subst hl
 obtain rfl : b10 = false := hb
 obtain rfl : b8 = true := hn8
 obtain rfl : b7 = true := (FC8 rfl)
 have e31 := (HT.got 31 (v8) (by repeat (first | exact List.mem_cons_self .. | apply List.mem_cons_of_mem))).trans (congrArg some (FV8 rfl))
 go_simp
 exact ⟨b0, b1, b2, b3, b4, b5, b6, true, true, b9, true, b11, b12, b13, sv3, Av3, nv3, cv3, sv5, Av5, nv5, cv5, p6, sv7, Av7, nv7, cv7, v8, v9, p11, ⟨rfl, HT.put 10 41 _ rfl (show ([32, 33, 34, 35, 36, 37, 38, 39, 31, 40, 41, 9, 10] : List Nat).Nodup from by decide) (by rw [HS]; decide), HS, E2, E3, E6, HB, FW3, FW5, FS6, FW7, FV8, FV9, FB11, FC6, FC8, FC9, FC12, FD6_11⟩⟩
theorem InvA3_s11 (HH : InvA3H x y w0 W s A n c s' A' n' c' t B m d t' B' m' d' g6 sg Ag ng cg) (hop : o.op = .alloc 43) (hd : o.dst = some 9) (hg : o.guard = none) (hI : InvA3 x y w0 W s A n c s' A' n' c' t B m d t' B' m' d' g6 sg Ag ng cg base l a w) (hb : l.getD 11 true = false) : InvStep (InvA3 x y w0 W s A n c s' A' n' c' t B m d t' B' m' d' g6 sg Ag ng cg base) 11 o ops Q l a w := by
 obtain ⟨HU, HV, HFA, HFB, HF1, HF, HBW, c0, c1, c2, c3, c4, c5, c6, c7, HG, c8, c9⟩ := HH
 unfold InvStep
 have hu43 := Try.underlying43
 have hu45 := Try.underlying45
 obtain ⟨dst, op, ty, pos, after, guard⟩ := o
 simp only at hop hd hg
 subst hop hd hg
 obtain ⟨b0, b1, b2, b3, b4, b5, b6, b7, b8, b9, b10, b11, b12, b13, sv3, Av3, nv3, cv3, sv5, Av5, nv5, cv5, p6, sv7, Av7, nv7, cv7, v8, v9, p11, ⟨hl, HT, HS, E2, E3, E6, HB, FW3, FW5, FS6, FW7, FV8, FV9, FB11, FC6, FC8, FC9, FC12, FD6_11⟩⟩ := hI
 subst hl
 obtain rfl : b11 = false := hb
 obtain rfl : b12 = false := by
  cases b12 with
  | true => exact absurd (FC12 rfl).2.2 (by decide)
  | false => rfl
 go_simp
 exact ⟨b0, b1, b2, b3, b4, b5, b6, b7, b8, b9, b10, true, false, b13, sv3, Av3, nv3, cv3, sv5, Av5, nv5, cv5, p6, sv7, Av7, nv7, cv7, v8, v9, w.heap.size, ⟨rfl, HT.put 11 9 _ rfl (show ([32, 33, 34, 35, 36, 37, 38, 39, 31, 40, 41, 9, 10] : List Nat).Nodup from by decide) (by rw [HS]; decide), HS, E2, E3, E6, below_alloc HB _, (fun h => (FW3 h).below (below_alloc (Below.refl _ _) _)), (fun h => (FW5 h).below (below_alloc (Below.refl _ _) _)), (fun h => ⟨(FS6 h).1, blk_below (FS6 h).2 (below_alloc (Below.refl _ _) _)⟩), (fun h => (FW7 h).below (below_alloc (Below.refl _ _) _)), FV8, FV9, (fun _ => ⟨HB.size, blk_new w _⟩), FC6, FC8, FC9, (fun h => absurd h (by decide)), (fun h _ => Ne.symm (Nat.ne_of_gt (blk_lt (FS6 h).2)))⟩⟩
theorem InvA3_s12 (HH : InvA3H x y w0 W s A n c s' A' n' c' t B m d t' B' m' d' g6 sg Ag ng cg) (hop : o.op = .store 43 (.tmp 9) (.tmp 40)) (hd : o.dst = none) (hg : o.guard = none) (hI : InvA3 x y w0 W s A n c s' A' n' c' t B m d t' B' m' d' g6 sg Ag ng cg base l a w) (hb : l.getD 12 true = false) (hn9 : l.getD 9 false = true) (hn11 : l.getD 11 false = true) : InvStep (InvA3 x y w0 W s A n c s' A' n' c' t B m d t' B' m' d' g6 sg Ag ng cg base) 12 o ops Q l a w := by
 obtain ⟨HU, HV, HFA, HFB, HF1, HF, HBW, c0, c1, c2, c3, c4, c5, c6, c7, HG, c8, c9⟩ := HH
 unfold InvStep
 have hu43 := Try.underlying43
 have hu45 := Try.underlying45
 obtain ⟨dst, op, ty, pos, after, guard⟩ := o
 simp only at hop hd hg
 subst hop hd hg
 obtain ⟨b0, b1, b2, b3, b4, b5, b6, b7, b8, b9, b10, b11, b12, b13, sv3, Av3, nv3, cv3, sv5, Av5, nv5, cv5, p6, sv7, Av7, nv7, cv7, v8, v9, p11, ⟨hl, HT, HS, E2, E3, E6, HB, FW3, FW5, FS6, FW7, FV8, FV9, FB11, FC6, FC8, FC9, FC12, FD6_11⟩⟩ := hI
 subst hl
 obtain rfl : b12 = false := hb
 obtain rfl : b9 = true := hn9
 obtain rfl : b11 = true := hn11
 obtain rfl : b7 = true := (FC9 rfl).1
 obtain rfl : b8 = true := (FC9 rfl).2
 have e9 := HT.got 9 (.pointer (some ⟨p11, 0, none⟩)) (by repeat (first | exact List.mem_cons_self .. | apply List.mem_cons_of_mem))
 have e40 := (HT.got 40 (v9) (by repeat (first | exact List.mem_cons_self .. | apply List.mem_cons_of_mem))).trans (congrArg some (FV9 rfl))
 have hbk := (FB11 rfl).2
 have hge := (FB11 rfl).1
 have m0 : w.cell? ⟨p11, 0, none⟩ = some (.bool false) := blk_cell hbk 0
 have m1 : w.cell? ⟨p11, 1, none⟩ = some (.slice none 0 0) := blk_cell hbk 1
 have f0 := blk_frozen hbk 0
 have f1 := blk_frozen hbk 1
 have hk := IntKeep.set2 hbk sv7 Av7 nv7 cv7
 go_simp
 exact ⟨b0, b1, b2, b3, b4, b5, b6, true, true, true, b10, true, true, b13, sv3, Av3, nv3, cv3, sv5, Av5, nv5, cv5, p6, sv7, Av7, nv7, cv7, v8, v9, p11, ⟨rfl, HT, HS, E2, E3, E6, ((HB.setCell (p := ⟨p11, 0, none⟩) hge _).setCell (p := ⟨p11, 1, none⟩) hge _), (fun h => (FW3 h).keep hk), (fun h => (FW5 h).keep hk), (fun h => ⟨(FS6 h).1, blk_far (blk_far (FS6 h).2 (p := ⟨p11, 0, none⟩) (FD6_11 h rfl) _) (p := ⟨p11, 1, none⟩) (FD6_11 h rfl) _⟩), (fun h => (FW7 h).keep hk), FV8, FV9, (fun _ => ⟨hge, blk_put (blk_put hbk 0 _ rfl) 1 _ rfl⟩), FC6, FC8, FC9, (fun _ => ⟨rfl, rfl, rfl⟩), FD6_11⟩⟩
theorem InvA3_s13 (HH : InvA3H x y w0 W s A n c s' A' n' c' t B m d t' B' m' d' g6 sg Ag ng cg) (hop : o.op = .assign (.tmp 41)) (hd : o.dst = some 10) (hg : o.guard = none) (hI : InvA3 x y w0 W s A n c s' A' n' c' t B m d t' B' m' d' g6 sg Ag ng cg base l a w) (hb : l.getD 13 true = false) (hn10 : l.getD 10 false = true) : InvStep (InvA3 x y w0 W s A n c s' A' n' c' t B m d t' B' m' d' g6 sg Ag ng cg base) 13 o ops Q l a w := by
 obtain ⟨HU, HV, HFA, HFB, HF1, HF, HBW, c0, c1, c2, c3, c4, c5, c6, c7, HG, c8, c9⟩ := HH
 unfold InvStep
 have hu43 := Try.underlying43
 have hu45 := Try.underlying45
 obtain ⟨dst, op, ty, pos, after, guard⟩ := o
 simp only at hop hd hg
 subst hop hd hg
 obtain ⟨b0, b1, b2, b3, b4, b5, b6, b7, b8, b9, b10, b11, b12, b13, sv3, Av3, nv3, cv3, sv5, Av5, nv5, cv5, p6, sv7, Av7, nv7, cv7, v8, v9, p11, ⟨hl, HT, HS, E2, E3, E6, HB, FW3, FW5, FS6, FW7, FV8, FV9, FB11, FC6, FC8, FC9, FC12, FD6_11⟩⟩ := hI
 subst hl
 obtain rfl : b13 = false := hb
 obtain rfl : b10 = true := hn10
 have e41 := HT.got 41 (.int .i64 0) (by repeat (first | exact List.mem_cons_self .. | apply List.mem_cons_of_mem))
 go_simp
 exact ⟨b0, b1, b2, b3, b4, b5, b6, b7, b8, b9, true, b11, b12, true, sv3, Av3, nv3, cv3, sv5, Av5, nv5, cv5, p6, sv7, Av7, nv7, cv7, v8, v9, p11, ⟨rfl, HT.put 12 10 _ rfl (show ([32, 33, 34, 35, 36, 37, 38, 39, 31, 40, 41, 9, 10] : List Nat).Nodup from by decide) (by rw [HS]; decide), HS, E2, E3, E6, HB, FW3, FW5, FS6, FW7, FV8, FV9, FB11, FC6, FC8, FC9, FC12, FD6_11⟩⟩
end Go.Proofs.Ytjmkccabpnigiaa.P
