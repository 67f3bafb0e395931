import Derived.Test.YtjmkccabpnigiaaQGivenY
namespace Go.Proofs.Ytjmkccabpnigiaa.P
open Go.RowKit Go.Proofs.YtjmkccabpnigiaaW.PrintWords Go.Proofs.YtjmkccabpnigiaaW.PrintLast Go.Proofs.YtjmkccabpnigiaaW.PrintMore
attribute [local go_sem] max2_int min2_int max_two min_two max_three min_three max_four min_four
set_option linter.unusedVariables false
set_option linter.unusedSimpArgs false
set_option maxHeartbeats 8000000
set_option maxRecDepth 100000
open Go.Proofs.YtjmkccabpnigiaaW.PrintLast
structure InvA5F (x y : Int) (w0 W : World) (s : Bool) (A : Option Addr) (n c : Nat) (s' : Bool) (A' : Option Addr) (n' c' : Nat) (t : Bool) (B : Option Addr) (m d : Nat) (t' : Bool) (B' : Option Addr) (m' d' : Nat) (g6 : Nat) (sg : Bool) (Ag : Option Addr) (ng cg : Nat) (b0 b1 b2 b3 b4 b5 b6 b7 b8 b9 b10 b11 b12 b13 : Bool) (sv1 : Bool) (Av1 : Option Addr) (nv1 cv1 : Nat) (sv3 : Bool) (Av3 : Option Addr) (nv3 cv3 : Nat) (sv5 : Bool) (Av5 : Option Addr) (nv5 cv5 : Nat) (p6 : Nat) (sv7 : Bool) (Av7 : Option Addr) (nv7 cv7 : Nat) (v8 : Value) (v9 : Value) (p11 : Nat) (base : Array Value) (l : List Bool) (a : Act) (w : World) : Prop where
 hl : l = [b0, b1, b2, b3, b4, b5, b6, b7, b8, b9, b10, b11, b12, b13]
 HT : Tm a base [(b0, 49, .agg #[.bool s, .slice A n c, .bool s', .slice A' n' c']), (b1, 50, .agg #[.bool sv1, .slice Av1 nv1 cv1]), (b2, 51, .agg #[.bool sg, .slice Ag ng cg]), (b3, 52, .agg #[.bool sv3, .slice Av3 nv3 cv3]), (b4, 53, .agg #[.bool t, .slice B m d, .bool t', .slice B' m' d']), (b5, 54, .agg #[.bool sv5, .slice Av5 nv5 cv5]), (b6, 55, .slice (some ⟨p6, 0, none⟩) 2 2), (b7, 56, .tuple #[.agg #[.bool sv7, .slice Av7 nv7 cv7], .int .i64 0]), (b8, 48, v8), (b9, 57, v9), (b10, 58, .int .i64 0), (b11, 13, .pointer (some ⟨p11, 0, none⟩)), (b13, 14, .int .i64 0)]
 HS : base.size = 79
 E2 : base[2]? = some (.pointer (some ⟨w0.heap.size, 0, none⟩))
 E3 : base[3]? = some (.pointer (some ⟨w0.heap.size + 1, 0, none⟩))
 E6 : base[6]? = some (.pointer (some ⟨g6, 0, none⟩))
 HB : Below W.heap.size W w
 FW1 : (b1 = true → WI w (.agg #[.bool sv1, .slice Av1 nv1 cv1]) (1))
 FW3 : (b3 = true → WI w (.agg #[.bool sv3, .slice Av3 nv3 cv3]) (1))
 FW5 : (b5 = true → WI w (.agg #[.bool sv5, .slice Av5 nv5 cv5]) (1))
 FS6 : (b6 = true → W.heap.size ≤ p6 ∧ w.heap[p6]? = some (.cells #[.bool sv3, .slice Av3 nv3 cv3, .bool sv5, .slice Av5 nv5 cv5] 43 (0, 0)))
 FW7 : (b7 = true → WI w (.agg #[.bool sv7, .slice Av7 nv7 cv7]) (1))
 FV8 : (b8 = true → v8 = .tuple #[.agg #[.bool sv7, .slice Av7 nv7 cv7], .int .i64 0])
 FV9 : (b9 = true → v9 = .agg #[.bool sv7, .slice Av7 nv7 cv7])
 FB11 : (b11 = true → W.heap.size ≤ p11 ∧ w.heap[p11]? = some (.cells (if b12 then #[.bool sv7, .slice Av7 nv7 cv7] else #[.bool false, .slice none 0 0]) 43 (0, 0)))
 FC6 : (b6 = true → b3 = true ∧ b5 = true)
 FC8 : (b8 = true → b7 = true)
 FC9 : (b9 = true → b7 = true ∧ b8 = true)
 FC12 : (b12 = true → b7 = true ∧ b9 = true ∧ b11 = true)
 FD6_11 : (b6 = true → b11 = true → p6 ≠ p11)
def InvA5 (x y : Int) (w0 W : World) (s : Bool) (A : Option Addr) (n c : Nat) (s' : Bool) (A' : Option Addr) (n' c' : Nat) (t : Bool) (B : Option Addr) (m d : Nat) (t' : Bool) (B' : Option Addr) (m' d' : Nat) (g6 : Nat) (sg : Bool) (Ag : Option Addr) (ng cg : Nat) (base : Array Value) (l : List Bool) (a : Act) (w : World) : Prop := ∃ (b0 b1 b2 b3 b4 b5 b6 b7 b8 b9 b10 b11 b12 b13 : Bool) (sv1 : Bool) (Av1 : Option Addr) (nv1 cv1 : Nat) (sv3 : Bool) (Av3 : Option Addr) (nv3 cv3 : Nat) (sv5 : Bool) (Av5 : Option Addr) (nv5 cv5 : Nat) (p6 : Nat) (sv7 : Bool) (Av7 : Option Addr) (nv7 cv7 : Nat) (v8 : Value) (v9 : Value) (p11 : Nat), InvA5F x y w0 W s A n c s' A' n' c' t B m d t' B' m' d' g6 sg Ag ng cg b0 b1 b2 b3 b4 b5 b6 b7 b8 b9 b10 b11 b12 b13 sv1 Av1 nv1 cv1 sv3 Av3 nv3 cv3 sv5 Av5 nv5 cv5 p6 sv7 Av7 nv7 cv7 v8 v9 p11 base l a w
structure InvA5H (x y : Int) (w0 W : World) (s : Bool) (A : Option Addr) (n c : Nat) (s' : Bool) (A' : Option Addr) (n' c' : Nat) (t : Bool) (B : Option Addr) (m d : Nat) (t' : Bool) (B' : Option Addr) (m' d' : Nat) (g6 : Nat) (sg : Bool) (Ag : Option Addr) (ng cg : Nat) : Prop where
 HU : Aside0 (WI w0 (.agg #[.bool s, .slice A n c]) x ∧ WI w0 (.agg #[.bool s', .slice A' n' c']) 0)
 HV : Aside0 (WI w0 (.agg #[.bool t, .slice B m d]) y ∧ WI w0 (.agg #[.bool t', .slice B' m' d']) 0)
 HFA : Aside0 (FI w0 (.agg #[.bool s, .slice A n c, .bool s', .slice A' n' c']) x)
 HFB : Aside0 (FI w0 (.agg #[.bool t, .slice B m d, .bool t', .slice B' m' d']) y)
 HF1 : Aside0 (Fit 1)
 HF : Aside0 (Fit x ∧ Fit y ∧ Fit (x + y) ∧ Fit (x * 1) ∧ Fit (y * 1) ∧ Fit (1 * 1))
 HBW : Aside0 (Below w0.heap.size w0 W)
 c0 : Aside0 (W.cell? ⟨w0.heap.size, 0, none⟩ = some (.bool s))
 c1 : Aside0 (W.cell? ⟨w0.heap.size, 1, none⟩ = some (.slice A n c))
 c2 : Aside0 (W.cell? ⟨w0.heap.size, 2, none⟩ = some (.bool s'))
 c3 : Aside0 (W.cell? ⟨w0.heap.size, 3, none⟩ = some (.slice A' n' c'))
 c4 : Aside0 (W.cell? ⟨w0.heap.size + 1, 0, none⟩ = some (.bool t))
 c5 : Aside0 (W.cell? ⟨w0.heap.size + 1, 1, none⟩ = some (.slice B m d))
 c6 : Aside0 (W.cell? ⟨w0.heap.size + 1, 2, none⟩ = some (.bool t'))
 c7 : Aside0 (W.cell? ⟨w0.heap.size + 1, 3, none⟩ = some (.slice B' m' d'))
 HG : Aside0 (W.heap[g6]? = some (.cells #[.bool sg, .slice Ag ng cg] 43 (0, 0)) ∧ WI W (.agg #[.bool sg, .slice Ag ng cg]) 1)
 c8 : Aside0 (W.cell? ⟨g6, 0, none⟩ = some (.bool sg))
 c9 : Aside0 (W.cell? ⟨g6, 1, none⟩ = some (.slice Ag ng cg))
variable {x y : Int} {w0 W : World} {s : Bool} {A : Option Addr} {n c : Nat} {s' : Bool} {A' : Option Addr} {n' c' : Nat} {t : Bool} {B : Option Addr} {m d : Nat} {t' : Bool} {B' : Option Addr} {m' d' : Nat} {g6 : Nat} {sg : Bool} {Ag : Option Addr} {ng cg : Nat} {Q : Exit → Act → World → Prop} {ops : Array Oper} {base : Array Value} {o : Oper} {l : List Bool} {a : Act} {w : World}
theorem InvA5_s0 (HH : InvA5H x y w0 W s A n c s' A' n' c' t B m d t' B' m' d' g6 sg Ag ng cg) (hop : o.op = .load 45 (.tmp 2)) (hd : o.dst = some 49) (hg : o.guard = none) (hI : InvA5 x y w0 W s A n c s' A' n' c' t B m d t' B' m' d' g6 sg Ag ng cg base l a w) (hb : l.getD 0 true = false) : InvStep (InvA5 x y w0 W s A n c s' A' n' c' t B m d t' B' m' d' g6 sg Ag ng cg base) 0 o ops Q l a w := by
 obtain ⟨HU, HV, HFA, HFB, HF1, HF, HBW, c0, c1, c2, c3, c4, c5, c6, c7, HG, c8, c9⟩ := HH
 unfold InvStep
 have hu43 := Try.underlying43
 have hu45 := Try.underlying45
 obtain ⟨dst, op, ty, pos, after, guard⟩ := o
 simp only at hop hd hg
 subst hop hd hg
 obtain ⟨b0, b1, b2, b3, b4, b5, b6, b7, b8, b9, b10, b11, b12, b13, sv1, Av1, nv1, cv1, sv3, Av3, nv3, cv3, sv5, Av5, nv5, cv5, p6, sv7, Av7, nv7, cv7, v8, v9, p11, ⟨hl, HT, HS, E2, E3, E6, HB, FW1, FW3, FW5, FS6, FW7, FV8, FV9, FB11, FC6, FC8, FC9, FC12, FD6_11⟩⟩ := hI
 subst hl
 obtain rfl : b0 = false := hb
 have e2 := HT.base_ 2 _ (by simp) E2
 have kc0 := pw_cell_below HB c0.out
 have kc1 := pw_cell_below HB c1.out
 have kc2 := pw_cell_below HB c2.out
 have kc3 := pw_cell_below HB c3.out
 go_simp
 exact ⟨true, b1, b2, b3, b4, b5, b6, b7, b8, b9, b10, b11, b12, b13, sv1, Av1, nv1, cv1, sv3, Av3, nv3, cv3, sv5, Av5, nv5, cv5, p6, sv7, Av7, nv7, cv7, v8, v9, p11, ⟨rfl, HT.put 0 49 _ rfl (show ([49, 50, 51, 52, 53, 54, 55, 56, 48, 57, 58, 13, 14] : List Nat).Nodup from by decide) (by rw [HS]; decide), HS, E2, E3, E6, HB, FW1, FW3, FW5, FS6, FW7, FV8, FV9, FB11, FC6, FC8, FC9, FC12, FD6_11⟩⟩
theorem InvA5_s1 (HH : InvA5H x y w0 W s A n c s' A' n' c' t B m d t' B' m' d' g6 sg Ag ng cg) (hop : o.op = .call { callee := .value (.func 46), args := #[.tmp 49], argTypes := #[45] }) (hd : o.dst = some 50) (hg : o.guard = none) (hI : InvA5 x y w0 W s A n c s' A' n' c' t B m d t' B' m' d' g6 sg Ag ng cg base l a w) (hb : l.getD 1 true = false) (hn0 : l.getD 0 false = true) : InvStep (InvA5 x y w0 W s A n c s' A' n' c' t B m d t' B' m' d' g6 sg Ag ng cg base) 1 o ops Q l a w := by
 obtain ⟨HU, HV, HFA, HFB, HF1, HF, HBW, c0, c1, c2, c3, c4, c5, c6, c7, HG, c8, c9⟩ := HH
 unfold InvStep
 have hu43 := Try.underlying43
 have hu45 := Try.underlying45
 obtain ⟨dst, op, ty, pos, after, guard⟩ := o
 simp only at hop hd hg
 subst hop hd hg
 obtain ⟨b0, b1, b2, b3, b4, b5, b6, b7, b8, b9, b10, b11, b12, b13, sv1, Av1, nv1, cv1, sv3, Av3, nv3, cv3, sv5, Av5, nv5, cv5, p6, sv7, Av7, nv7, cv7, v8, v9, p11, ⟨hl, HT, HS, E2, E3, E6, HB, FW1, FW3, FW5, FS6, FW7, FV8, FV9, FB11, FC6, FC8, FC9, FC12, FD6_11⟩⟩ := hI
 subst hl
 obtain rfl : b1 = false := hb
 obtain rfl : b0 = true := hn0
 have e49 := HT.got 49 (.agg #[.bool s, .slice A n c, .bool s', .slice A' n' c']) (by repeat (first | exact List.mem_cons_self .. | apply List.mem_cons_of_mem))
 go_simp
 go_at_call 46
 refine (Den_calls _ x _ ((HFA.out.below HBW.out).below HB)).mono ?_
 rintro e w2 ⟨v2, rfl, hX, hb2⟩
 obtain ⟨sn, An, nn, cn, rfl, HX⟩ := hX.parts
 exact ⟨true, true, b2, b3, b4, b5, b6, b7, b8, b9, b10, b11, b12, b13, sn, An, nn, cn, sv3, Av3, nv3, cv3, sv5, Av5, nv5, cv5, p6, sv7, Av7, nv7, cv7, v8, v9, p11, ⟨rfl, HT.put 1 50 _ rfl (show ([49, 50, 51, 52, 53, 54, 55, 56, 48, 57, 58, 13, 14] : List Nat).Nodup from by decide) (by rw [HS]; decide), HS, E2, E3, E6, below_step HB hb2, (fun _ => HX.out), (fun h => (FW3 h).below hb2), (fun h => (FW5 h).below hb2), (fun h => ⟨(FS6 h).1, blk_below (FS6 h).2 hb2⟩), (fun h => (FW7 h).below hb2), FV8, FV9, (fun h => ⟨(FB11 h).1, blk_below (FB11 h).2 hb2⟩), FC6, FC8, FC9, FC12, FD6_11⟩⟩
theorem InvA5_s2 (HH : InvA5H x y w0 W s A n c s' A' n' c' t B m d t' B' m' d' g6 sg Ag ng cg) (hop : o.op = .load 43 (.tmp 6)) (hd : o.dst = some 51) (hg : o.guard = none) (hI : InvA5 x y w0 W s A n c s' A' n' c' t B m d t' B' m' d' g6 sg Ag ng cg base l a w) (hb : l.getD 2 true = false) : InvStep (InvA5 x y w0 W s A n c s' A' n' c' t B m d t' B' m' d' g6 sg Ag ng cg base) 2 o ops Q l a w := by
 obtain ⟨HU, HV, HFA, HFB, HF1, HF, HBW, c0, c1, c2, c3, c4, c5, c6, c7, HG, c8, c9⟩ := HH
 unfold InvStep
 have hu43 := Try.underlying43
 have hu45 := Try.underlying45
 obtain ⟨dst, op, ty, pos, after, guard⟩ := o
 simp only at hop hd hg
 subst hop hd hg
 obtain ⟨b0, b1, b2, b3, b4, b5, b6, b7, b8, b9, b10, b11, b12, b13, sv1, Av1, nv1, cv1, sv3, Av3, nv3, cv3, sv5, Av5, nv5, cv5, p6, sv7, Av7, nv7, cv7, v8, v9, p11, ⟨hl, HT, HS, E2, E3, E6, HB, FW1, FW3, FW5, FS6, FW7, FV8, FV9, FB11, FC6, FC8, FC9, FC12, FD6_11⟩⟩ := hI
 subst hl
 obtain rfl : b2 = false := hb
 have e6 := HT.base_ 6 _ (by simp) E6
 have kc8 := pw_cell_below HB c8.out
 have kc9 := pw_cell_below HB c9.out
 go_simp
 exact ⟨b0, b1, true, b3, b4, b5, b6, b7, b8, b9, b10, b11, b12, b13, sv1, Av1, nv1, cv1, sv3, Av3, nv3, cv3, sv5, Av5, nv5, cv5, p6, sv7, Av7, nv7, cv7, v8, v9, p11, ⟨rfl, HT.put 2 51 _ rfl (show ([49, 50, 51, 52, 53, 54, 55, 56, 48, 57, 58, 13, 14] : List Nat).Nodup from by decide) (by rw [HS]; decide), HS, E2, E3, E6, HB, FW1, FW3, FW5, FS6, FW7, FV8, FV9, FB11, FC6, FC8, FC9, FC12, FD6_11⟩⟩
theorem InvA5_s3 (HH : InvA5H x y w0 W s A n c s' A' n' c' t B m d t' B' m' d' g6 sg Ag ng cg) (hop : o.op = .call { callee := .value (.func 62), args := #[.tmp 50, .tmp 51], argTypes := #[43, 43] }) (hd : o.dst = some 52) (hg : o.guard = none) (hI : InvA5 x y w0 W s A n c s' A' n' c' t B m d t' B' m' d' g6 sg Ag ng cg base l a w) (hb : l.getD 3 true = false) (hn1 : l.getD 1 false = true) (hn2 : l.getD 2 false = true) : InvStep (InvA5 x y w0 W s A n c s' A' n' c' t B m d t' B' m' d' g6 sg Ag ng cg base) 3 o ops Q l a w := by
 obtain ⟨HU, HV, HFA, HFB, HF1, HF, HBW, c0, c1, c2, c3, c4, c5, c6, c7, HG, c8, c9⟩ := HH
 unfold InvStep
 have hu43 := Try.underlying43
 have hu45 := Try.underlying45
 obtain ⟨dst, op, ty, pos, after, guard⟩ := o
 simp only at hop hd hg
 subst hop hd hg
 obtain ⟨b0, b1, b2, b3, b4, b5, b6, b7, b8, b9, b10, b11, b12, b13, sv1, Av1, nv1, cv1, sv3, Av3, nv3, cv3, sv5, Av5, nv5, cv5, p6, sv7, Av7, nv7, cv7, v8, v9, p11, ⟨hl, HT, HS, E2, E3, E6, HB, FW1, FW3, FW5, FS6, FW7, FV8, FV9, FB11, FC6, FC8, FC9, FC12, FD6_11⟩⟩ := hI
 subst hl
 obtain rfl : b3 = false := hb
 obtain rfl : b1 = true := hn1
 obtain rfl : b2 = true := hn2
 obtain rfl : b6 = false := by
  cases b6 with
  | true => exact absurd (FC6 rfl).1 (by decide)
  | false => rfl
 have e50 := HT.got 50 (.agg #[.bool sv1, .slice Av1 nv1 cv1]) (by repeat (first | exact List.mem_cons_self .. | apply List.mem_cons_of_mem))
 have e51 := HT.got 51 (.agg #[.bool sg, .slice Ag ng cg]) (by repeat (first | exact List.mem_cons_self .. | apply List.mem_cons_of_mem))
 go_simp
 go_at_call 62
 refine (over_calls _ _ 1 1 _ (FW1 rfl) (HG.out.2.below HB) HF1.out (by decide) (by decide)).mono ?_
 rintro e w2 ⟨v2, rfl, hX, hb2⟩
 rw [Int.ediv_one] at hX
 obtain ⟨sn, An, nn, cn, rfl, HX⟩ := hX.parts
 exact ⟨b0, true, true, true, b4, b5, false, b7, b8, b9, b10, b11, b12, b13, sv1, Av1, nv1, cv1, sn, An, nn, cn, sv5, Av5, nv5, cv5, p6, sv7, Av7, nv7, cv7, v8, v9, p11, ⟨rfl, HT.put 3 52 _ rfl (show ([49, 50, 51, 52, 53, 54, 55, 56, 48, 57, 58, 13, 14] : List Nat).Nodup from by decide) (by rw [HS]; decide), HS, E2, E3, E6, below_step HB hb2, (fun h => (FW1 h).below hb2), (fun _ => HX.out), (fun h => (FW5 h).below hb2), (fun h => absurd h (by decide)), (fun h => (FW7 h).below hb2), FV8, FV9, (fun h => ⟨(FB11 h).1, blk_below (FB11 h).2 hb2⟩), (fun h => absurd h (by decide)), FC8, FC9, FC12, FD6_11⟩⟩
theorem InvA5_s4 (HH : InvA5H x y w0 W s A n c s' A' n' c' t B m d t' B' m' d' g6 sg Ag ng cg) (hop : o.op = .load 45 (.tmp 3)) (hd : o.dst = some 53) (hg : o.guard = none) (hI : InvA5 x y w0 W s A n c s' A' n' c' t B m d t' B' m' d' g6 sg Ag ng cg base l a w) (hb : l.getD 4 true = false) : InvStep (InvA5 x y w0 W s A n c s' A' n' c' t B m d t' B' m' d' g6 sg Ag ng cg base) 4 o ops Q l a w := by
 obtain ⟨HU, HV, HFA, HFB, HF1, HF, HBW, c0, c1, c2, c3, c4, c5, c6, c7, HG, c8, c9⟩ := HH
 unfold InvStep
 have hu43 := Try.underlying43
 have hu45 := Try.underlying45
 obtain ⟨dst, op, ty, pos, after, guard⟩ := o
 simp only at hop hd hg
 subst hop hd hg
 obtain ⟨b0, b1, b2, b3, b4, b5, b6, b7, b8, b9, b10, b11, b12, b13, sv1, Av1, nv1, cv1, sv3, Av3, nv3, cv3, sv5, Av5, nv5, cv5, p6, sv7, Av7, nv7, cv7, v8, v9, p11, ⟨hl, HT, HS, E2, E3, E6, HB, FW1, FW3, FW5, FS6, FW7, FV8, FV9, FB11, FC6, FC8, FC9, FC12, FD6_11⟩⟩ := hI
 subst hl
 obtain rfl : b4 = false := hb
 have e3 := HT.base_ 3 _ (by simp) E3
 have kc4 := pw_cell_below HB c4.out
 have kc5 := pw_cell_below HB c5.out
 have kc6 := pw_cell_below HB c6.out
 have kc7 := pw_cell_below HB c7.out
 go_simp
 exact ⟨b0, b1, b2, b3, true, b5, b6, b7, b8, b9, b10, b11, b12, b13, sv1, Av1, nv1, cv1, sv3, Av3, nv3, cv3, sv5, Av5, nv5, cv5, p6, sv7, Av7, nv7, cv7, v8, v9, p11, ⟨rfl, HT.put 4 53 _ rfl (show ([49, 50, 51, 52, 53, 54, 55, 56, 48, 57, 58, 13, 14] : List Nat).Nodup from by decide) (by rw [HS]; decide), HS, E2, E3, E6, HB, FW1, FW3, FW5, FS6, FW7, FV8, FV9, FB11, FC6, FC8, FC9, FC12, FD6_11⟩⟩
theorem InvA5_s5 (HH : InvA5H x y w0 W s A n c s' A' n' c' t B m d t' B' m' d' g6 sg Ag ng cg) (hop : o.op = .call { callee := .value (.func 46), args := #[.tmp 53], argTypes := #[45] }) (hd : o.dst = some 54) (hg : o.guard = none) (hI : InvA5 x y w0 W s A n c s' A' n' c' t B m d t' B' m' d' g6 sg Ag ng cg base l a w) (hb : l.getD 5 true = false) (hn4 : l.getD 4 false = true) : InvStep (InvA5 x y w0 W s A n c s' A' n' c' t B m d t' B' m' d' g6 sg Ag ng cg base) 5 o ops Q l a w := by
 obtain ⟨HU, HV, HFA, HFB, HF1, HF, HBW, c0, c1, c2, c3, c4, c5, c6, c7, HG, c8, c9⟩ := HH
 unfold InvStep
 have hu43 := Try.underlying43
 have hu45 := Try.underlying45
 obtain ⟨dst, op, ty, pos, after, guard⟩ := o
 simp only at hop hd hg
 subst hop hd hg
 obtain ⟨b0, b1, b2, b3, b4, b5, b6, b7, b8, b9, b10, b11, b12, b13, sv1, Av1, nv1, cv1, sv3, Av3, nv3, cv3, sv5, Av5, nv5, cv5, p6, sv7, Av7, nv7, cv7, v8, v9, p11, ⟨hl, HT, HS, E2, E3, E6, HB, FW1, FW3, FW5, FS6, FW7, FV8, FV9, FB11, FC6, FC8, FC9, FC12, FD6_11⟩⟩ := hI
 subst hl
 obtain rfl : b5 = false := hb
 obtain rfl : b4 = true := hn4
 obtain rfl : b6 = false := by
  cases b6 with
  | true => exact absurd (FC6 rfl).2 (by decide)
  | false => rfl
 have e53 := HT.got 53 (.agg #[.bool t, .slice B m d, .bool t', .slice B' m' d']) (by repeat (first | exact List.mem_cons_self .. | apply List.mem_cons_of_mem))
 go_simp
 go_at_call 46
 refine (Den_calls _ y _ ((HFB.out.below HBW.out).below HB)).mono ?_
 rintro e w2 ⟨v2, rfl, hX, hb2⟩
 obtain ⟨sn, An, nn, cn, rfl, HX⟩ := hX.parts
 exact ⟨b0, b1, b2, b3, true, true, false, b7, b8, b9, b10, b11, b12, b13, sv1, Av1, nv1, cv1, sv3, Av3, nv3, cv3, sn, An, nn, cn, p6, sv7, Av7, nv7, cv7, v8, v9, p11, ⟨rfl, HT.put 5 54 _ rfl (show ([49, 50, 51, 52, 53, 54, 55, 56, 48, 57, 58, 13, 14] : List Nat).Nodup from by decide) (by rw [HS]; decide), HS, E2, E3, E6, below_step HB hb2, (fun h => (FW1 h).below hb2), (fun h => (FW3 h).below hb2), (fun _ => HX.out), (fun h => absurd h (by decide)), (fun h => (FW7 h).below hb2), FV8, FV9, (fun h => ⟨(FB11 h).1, blk_below (FB11 h).2 hb2⟩), (fun h => absurd h (by decide)), FC8, FC9, FC12, FD6_11⟩⟩
theorem InvA5_s6 (HH : InvA5H x y w0 W s A n c s' A' n' c' t B m d t' B' m' d' g6 sg Ag ng cg) (hop : o.op = .buildSlice 123 2 #[(0, .tmp 52), (1, .tmp 54)]) (hd : o.dst = some 55) (hg : o.guard = none) (hI : InvA5 x y w0 W s A n c s' A' n' c' t B m d t' B' m' d' g6 sg Ag ng cg base l a w) (hb : l.getD 6 true = false) (hn3 : l.getD 3 false = true) (hn5 : l.getD 5 false = true) : InvStep (InvA5 x y w0 W s A n c s' A' n' c' t B m d t' B' m' d' g6 sg Ag ng cg base) 6 o ops Q l a w := by
 obtain ⟨HU, HV, HFA, HFB, HF1, HF, HBW, c0, c1, c2, c3, c4, c5, c6, c7, HG, c8, c9⟩ := HH
 unfold InvStep
 have hu43 := Try.underlying43
 have hu45 := Try.underlying45
 obtain ⟨dst, op, ty, pos, after, guard⟩ := o
 simp only at hop hd hg
 subst hop hd hg
 obtain ⟨b0, b1, b2, b3, b4, b5, b6, b7, b8, b9, b10, b11, b12, b13, sv1, Av1, nv1, cv1, sv3, Av3, nv3, cv3, sv5, Av5, nv5, cv5, p6, sv7, Av7, nv7, cv7, v8, v9, p11, ⟨hl, HT, HS, E2, E3, E6, HB, FW1, FW3, FW5, FS6, FW7, FV8, FV9, FB11, FC6, FC8, FC9, FC12, FD6_11⟩⟩ := hI
 subst hl
 obtain rfl : b6 = false := hb
 obtain rfl : b3 = true := hn3
 obtain rfl : b5 = true := hn5
 have e52 := HT.got 52 (.agg #[.bool sv3, .slice Av3 nv3 cv3]) (by repeat (first | exact List.mem_cons_self .. | apply List.mem_cons_of_mem))
 have e54 := HT.got 54 (.agg #[.bool sv5, .slice Av5 nv5 cv5]) (by repeat (first | exact List.mem_cons_self .. | apply List.mem_cons_of_mem))
 go_simp
 exact ⟨b0, b1, b2, true, b4, true, true, b7, b8, b9, b10, b11, b12, b13, sv1, Av1, nv1, cv1, sv3, Av3, nv3, cv3, sv5, Av5, nv5, cv5, w.heap.size, sv7, Av7, nv7, cv7, v8, v9, p11, ⟨rfl, HT.put 6 55 _ rfl (show ([49, 50, 51, 52, 53, 54, 55, 56, 48, 57, 58, 13, 14] : List Nat).Nodup from by decide) (by rw [HS]; decide), HS, E2, E3, E6, below_alloc HB _, (fun h => (FW1 h).below (below_alloc (Below.refl _ _) _)), (fun h => (FW3 h).below (below_alloc (Below.refl _ _) _)), (fun h => (FW5 h).below (below_alloc (Below.refl _ _) _)), (fun _ => ⟨HB.size, blk_new w _⟩), (fun h => (FW7 h).below (below_alloc (Below.refl _ _) _)), FV8, FV9, (fun h => ⟨(FB11 h).1, blk_below (FB11 h).2 (below_alloc (Below.refl _ _) _)⟩), (fun _ => ⟨rfl, rfl⟩), FC8, FC9, FC12, (fun _ h => Nat.ne_of_gt (blk_lt (FB11 h).2))⟩⟩
theorem InvA5_s7 (HH : InvA5H x y w0 W s A n c s' A' n' c' t B m d t' B' m' d' g6 sg Ag ng cg) (hop : o.op = .call { callee := .value (.func 75), args := #[.tmp 55], argTypes := #[123] }) (hd : o.dst = some 56) (hg : o.guard = none) (hI : InvA5 x y w0 W s A n c s' A' n' c' t B m d t' B' m' d' g6 sg Ag ng cg base l a w) (hb : l.getD 7 true = false) (hn6 : l.getD 6 false = true) : InvStep (InvA5 x y w0 W s A n c s' A' n' c' t B m d t' B' m' d' g6 sg Ag ng cg base) 7 o ops Q l a w := by
 obtain ⟨HU, HV, HFA, HFB, HF1, HF, HBW, c0, c1, c2, c3, c4, c5, c6, c7, HG, c8, c9⟩ := HH
 unfold InvStep
 have hu43 := Try.underlying43
 have hu45 := Try.underlying45
 obtain ⟨dst, op, ty, pos, after, guard⟩ := o
 simp only at hop hd hg
 subst hop hd hg
 obtain ⟨b0, b1, b2, b3, b4, b5, b6, b7, b8, b9, b10, b11, b12, b13, sv1, Av1, nv1, cv1, sv3, Av3, nv3, cv3, sv5, Av5, nv5, cv5, p6, sv7, Av7, nv7, cv7, v8, v9, p11, ⟨hl, HT, HS, E2, E3, E6, HB, FW1, FW3, FW5, FS6, FW7, FV8, FV9, FB11, FC6, FC8, FC9, FC12, FD6_11⟩⟩ := hI
 subst hl
 obtain rfl : b7 = false := hb
 obtain rfl : b6 = true := hn6
 obtain rfl : b3 = true := (FC6 rfl).1
 obtain rfl : b5 = true := (FC6 rfl).2
 obtain rfl : b8 = false := by
  cases b8 with
  | true => exact absurd (FC8 rfl) (by decide)
  | false => rfl
 obtain rfl : b9 = false := by
  cases b9 with
  | true => exact absurd (FC9 rfl).1 (by decide)
  | false => rfl
 obtain rfl : b12 = false := by
  cases b12 with
  | true => exact absurd (FC12 rfl).1 (by decide)
  | false => rfl
 have e55 := HT.got 55 (.slice (some ⟨p6, 0, none⟩) 2 2) (by repeat (first | exact List.mem_cons_self .. | apply List.mem_cons_of_mem))
 go_simp
 go_at_call 75
 refine (ftimes_calls p6 sv3 Av3 nv3 cv3 sv5 Av5 nv5 cv5 1 1 _ (FS6 rfl).2 (FW3 rfl) (FW5 rfl) HF1.out HF1.out HF.out.2.2.2.2.2).mono ?_
 rintro e w2 ⟨v2, rfl, hX, hb2⟩
 rw [Int.mul_one] at hX
 obtain ⟨sn, An, nn, cn, rfl, HX⟩ := hX.parts
 exact ⟨b0, b1, b2, true, b4, true, true, true, false, false, b10, b11, false, b13, sv1, Av1, nv1, cv1, sv3, Av3, nv3, cv3, sv5, Av5, nv5, cv5, p6, sn, An, nn, cn, v8, v9, p11, ⟨rfl, HT.put 7 56 _ rfl (show ([49, 50, 51, 52, 53, 54, 55, 56, 48, 57, 58, 13, 14] : List Nat).Nodup from by decide) (by rw [HS]; decide), HS, E2, E3, E6, below_step HB hb2, (fun h => (FW1 h).below hb2), (fun h => (FW3 h).below hb2), (fun h => (FW5 h).below hb2), (fun h => ⟨(FS6 h).1, blk_below (FS6 h).2 hb2⟩), (fun _ => HX.out), (fun h => absurd h (by decide)), (fun h => absurd h (by decide)), (fun h => ⟨(FB11 h).1, blk_below (FB11 h).2 hb2⟩), FC6, (fun h => absurd h (by decide)), (fun h => absurd h (by decide)), (fun h => absurd h (by decide)), FD6_11⟩⟩
theorem InvA5_s8 (HH : InvA5H x y w0 W s A n c s' A' n' c' t B m d t' B' m' d' g6 sg Ag ng cg) (hop : o.op = .move (.tmp 56)) (hd : o.dst = some 48) (hg : o.guard = none) (hI : InvA5 x y w0 W s A n c s' A' n' c' t B m d t' B' m' d' g6 sg Ag ng cg base l a w) (hb : l.getD 8 true = false) (hn7 : l.getD 7 false = true) : InvStep (InvA5 x y w0 W s A n c s' A' n' c' t B m d t' B' m' d' g6 sg Ag ng cg base) 8 o ops Q l a w := by
 obtain ⟨HU, HV, HFA, HFB, HF1, HF, HBW, c0, c1, c2, c3, c4, c5, c6, c7, HG, c8, c9⟩ := HH
 unfold InvStep
 have hu43 := Try.underlying43
 have hu45 := Try.underlying45
 obtain ⟨dst, op, ty, pos, after, guard⟩ := o
 simp only at hop hd hg
 subst hop hd hg
 obtain ⟨b0, b1, b2, b3, b4, b5, b6, b7, b8, b9, b10, b11, b12, b13, sv1, Av1, nv1, cv1, sv3, Av3, nv3, cv3, sv5, Av5, nv5, cv5, p6, sv7, Av7, nv7, cv7, v8, v9, p11, ⟨hl, HT, HS, E2, E3, E6, HB, FW1, FW3, FW5, FS6, FW7, FV8, FV9, FB11, FC6, FC8, FC9, FC12, FD6_11⟩⟩ := hI
 subst hl
 obtain rfl : b8 = false := hb
 obtain rfl : b7 = true := hn7
 obtain rfl : b9 = false := by
  cases b9 with
  | true => exact absurd (FC9 rfl).2 (by decide)
  | false => rfl
 have e56 := HT.got 56 (.tuple #[.agg #[.bool sv7, .slice Av7 nv7 cv7], .int .i64 0]) (by repeat (first | exact List.mem_cons_self .. | apply List.mem_cons_of_mem))
 go_simp
 exact ⟨b0, b1, b2, b3, b4, b5, b6, true, true, false, b10, b11, b12, b13, sv1, Av1, nv1, cv1, sv3, Av3, nv3, cv3, sv5, Av5, nv5, cv5, p6, sv7, Av7, nv7, cv7, _, v9, p11, ⟨rfl, HT.put 8 48 _ rfl (show ([49, 50, 51, 52, 53, 54, 55, 56, 48, 57, 58, 13, 14] : List Nat).Nodup from by decide) (by rw [HS]; decide), HS, E2, E3, E6, HB, FW1, FW3, FW5, FS6, FW7, (fun _ => rfl), (fun h => absurd h (by decide)), FB11, FC6, (fun _ => rfl), (fun h => absurd h (by decide)), FC12, FD6_11⟩⟩
theorem InvA5_s9 (HH : InvA5H x y w0 W s A n c s' A' n' c' t B m d t' B' m' d' g6 sg Ag ng cg) (hop : o.op = .extract (.tmp 48) 0) (hd : o.dst = some 57) (hg : o.guard = none) (hI : InvA5 x y w0 W s A n c s' A' n' c' t B m d t' B' m' d' g6 sg Ag ng cg base l a w) (hb : l.getD 9 true = false) (hn8 : l.getD 8 false = true) : InvStep (InvA5 x y w0 W s A n c s' A' n' c' t B m d t' B' m' d' g6 sg Ag ng cg base) 9 o ops Q l a w := by
 obtain ⟨HU, HV, HFA, HFB, HF1, HF, HBW, c0, c1, c2, c3, c4, c5, c6, c7, HG, c8, c9⟩ := HH
 unfold InvStep
 have hu43 := Try.underlying43
 have hu45 := Try.underlying45
 obtain ⟨dst, op, ty, pos, after, guard⟩ := o
 simp only at hop hd hg
 subst hop hd hg
 obtain ⟨b0, b1, b2, b3, b4, b5, b6, b7, b8, b9, b10, b11, b12, b13, sv1, Av1, nv1, cv1, sv3, Av3, nv3, cv3, sv5, Av5, nv5, cv5, p6, sv7, Av7, nv7, cv7, v8, v9, p11, ⟨hl, HT, HS, E2, E3, E6, HB, FW1, FW3, FW5, FS6, FW7, FV8, FV9, FB11, FC6, FC8, FC9, FC12, FD6_11⟩⟩ := hI
 subst hl
 obtain rfl : b9 = false := hb
 obtain rfl : b8 = true := hn8
 obtain rfl : b7 = true := (FC8 rfl)
 obtain rfl : b12 = false := by
  cases b12 with
  | true => exact absurd (FC12 rfl).2.1 (by decide)
  | false => rfl
 have e48 := (HT.got 48 (v8) (by repeat (first | exact List.mem_cons_self .. | apply List.mem_cons_of_mem))).trans (congrArg some (FV8 rfl))
 go_simp
 exact ⟨b0, b1, b2, b3, b4, b5, b6, true, true, true, b10, b11, false, b13, sv1, Av1, nv1, cv1, sv3, Av3, nv3, cv3, sv5, Av5, nv5, cv5, p6, sv7, Av7, nv7, cv7, v8, _, p11, ⟨rfl, HT.put 9 57 _ rfl (show ([49, 50, 51, 52, 53, 54, 55, 56, 48, 57, 58, 13, 14] : List Nat).Nodup from by decide) (by rw [HS]; decide), HS, E2, E3, E6, HB, FW1, FW3, FW5, FS6, FW7, FV8, (fun _ => rfl), FB11, FC6, FC8, (fun _ => ⟨rfl, rfl⟩), (fun h => absurd h (by decide)), FD6_11⟩⟩
theorem InvA5_s10 (HH : InvA5H x y w0 W s A n c s' A' n' c' t B m d t' B' m' d' g6 sg Ag ng cg) (hop : o.op = .extract (.tmp 48) 1) (hd : o.dst = some 58) (hg : o.guard = none) (hI : InvA5 x y w0 W s A n c s' A' n' c' t B m d t' B' m' d' g6 sg Ag ng cg base l a w) (hb : l.getD 10 true = false) (hn8 : l.getD 8 false = true) : InvStep (InvA5 x y w0 W s A n c s' A' n' c' t B m d t' B' m' d' g6 sg Ag ng cg base) 10 o ops Q l a w := by
 obtain ⟨HU, HV, HFA, HFB, HF1, HF, HBW, c0, c1, c2, c3, c4, c5, c6, c7, HG, c8, c9⟩ := HH
 unfold InvStep
 have hu43 := Try.underlying43
 have hu45 := Try.underlying45
 obtain ⟨dst, op, ty, pos, after, guard⟩ := o
 simp only at hop hd hg
 subst hop hd hg
 obtain ⟨b0, b1, b2, b3, b4, b5, b6, b7, b8, b9, b10, b11, b12, b13, sv1, Av1, nv1, cv1, sv3, Av3, nv3, cv3, sv5, Av5, nv5, cv5, p6, sv7, Av7, nv7, cv7, v8, v9, p11, ⟨hl, HT, HS, E2, E3, E6, HB, FW1, FW3, FW5, FS6, FW7, FV8, FV9, FB11, FC6, FC8, FC9, FC12, FD6_11⟩⟩ := hI
 subst hl
 obtain rfl : b10 = false := hb
 obtain rfl : b8 = true := hn8
 obtain rfl : b7 = true := (FC8 rfl)
 have e48 := (HT.got 48 (v8) (by repeat (first | exact List.mem_cons_self .. | apply List.mem_cons_of_mem))).trans (congrArg some (FV8 rfl))
 go_simp
 exact ⟨b0, b1, b2, b3, b4, b5, b6, true, true, b9, true, b11, b12, b13, sv1, Av1, nv1, cv1, sv3, Av3, nv3, cv3, sv5, Av5, nv5, cv5, p6, sv7, Av7, nv7, cv7, v8, v9, p11, ⟨rfl, HT.put 10 58 _ rfl (show ([49, 50, 51, 52, 53, 54, 55, 56, 48, 57, 58, 13, 14] : List Nat).Nodup from by decide) (by rw [HS]; decide), HS, E2, E3, E6, HB, FW1, FW3, FW5, FS6, FW7, FV8, FV9, FB11, FC6, FC8, FC9, FC12, FD6_11⟩⟩
theorem InvA5_s11 (HH : InvA5H x y w0 W s A n c s' A' n' c' t B m d t' B' m' d' g6 sg Ag ng cg) (hop : o.op = .alloc 43) (hd : o.dst = some 13) (hg : o.guard = none) (hI : InvA5 x y w0 W s A n c s' A' n' c' t B m d t' B' m' d' g6 sg Ag ng cg base l a w) (hb : l.getD 11 true = false) : InvStep (InvA5 x y w0 W s A n c s' A' n' c' t B m d t' B' m' d' g6 sg Ag ng cg base) 11 o ops Q l a w := by
 obtain ⟨HU, HV, HFA, HFB, HF1, HF, HBW, c0, c1, c2, c3, c4, c5, c6, c7, HG, c8, c9⟩ := HH
 unfold InvStep
 have hu43 := Try.underlying43
 have hu45 := Try.underlying45
 obtain ⟨dst, op, ty, pos, after, guard⟩ := o
 simp only at hop hd hg
 subst hop hd hg
 obtain ⟨b0, b1, b2, b3, b4, b5, b6, b7, b8, b9, b10, b11, b12, b13, sv1, Av1, nv1, cv1, sv3, Av3, nv3, cv3, sv5, Av5, nv5, cv5, p6, sv7, Av7, nv7, cv7, v8, v9, p11, ⟨hl, HT, HS, E2, E3, E6, HB, FW1, FW3, FW5, FS6, FW7, FV8, FV9, FB11, FC6, FC8, FC9, FC12, FD6_11⟩⟩ := hI
 subst hl
 obtain rfl : b11 = false := hb
 obtain rfl : b12 = false := by
  cases b12 with
  | true => exact absurd (FC12 rfl).2.2 (by decide)
  | false => rfl
 go_simp
 exact ⟨b0, b1, b2, b3, b4, b5, b6, b7, b8, b9, b10, true, false, b13, sv1, Av1, nv1, cv1, sv3, Av3, nv3, cv3, sv5, Av5, nv5, cv5, p6, sv7, Av7, nv7, cv7, v8, v9, w.heap.size, ⟨rfl, HT.put 11 13 _ rfl (show ([49, 50, 51, 52, 53, 54, 55, 56, 48, 57, 58, 13, 14] : List Nat).Nodup from by decide) (by rw [HS]; decide), HS, E2, E3, E6, below_alloc HB _, (fun h => (FW1 h).below (below_alloc (Below.refl _ _) _)), (fun h => (FW3 h).below (below_alloc (Below.refl _ _) _)), (fun h => (FW5 h).below (below_alloc (Below.refl _ _) _)), (fun h => ⟨(FS6 h).1, blk_below (FS6 h).2 (below_alloc (Below.refl _ _) _)⟩), (fun h => (FW7 h).below (below_alloc (Below.refl _ _) _)), FV8, FV9, (fun _ => ⟨HB.size, blk_new w _⟩), FC6, FC8, FC9, (fun h => absurd h (by decide)), (fun h _ => Ne.symm (Nat.ne_of_gt (blk_lt (FS6 h).2)))⟩⟩
theorem InvA5_s12 (HH : InvA5H x y w0 W s A n c s' A' n' c' t B m d t' B' m' d' g6 sg Ag ng cg) (hop : o.op = .store 43 (.tmp 13) (.tmp 57)) (hd : o.dst = none) (hg : o.guard = none) (hI : InvA5 x y w0 W s A n c s' A' n' c' t B m d t' B' m' d' g6 sg Ag ng cg base l a w) (hb : l.getD 12 true = false) (hn9 : l.getD 9 false = true) (hn11 : l.getD 11 false = true) : InvStep (InvA5 x y w0 W s A n c s' A' n' c' t B m d t' B' m' d' g6 sg Ag ng cg base) 12 o ops Q l a w := by
 obtain ⟨HU, HV, HFA, HFB, HF1, HF, HBW, c0, c1, c2, c3, c4, c5, c6, c7, HG, c8, c9⟩ := HH
 unfold InvStep
 have hu43 := Try.underlying43
 have hu45 := Try.underlying45
 obtain ⟨dst, op, ty, pos, after, guard⟩ := o
 simp only at hop hd hg
 subst hop hd hg
 obtain ⟨b0, b1, b2, b3, b4, b5, b6, b7, b8, b9, b10, b11, b12, b13, sv1, Av1, nv1, cv1, sv3, Av3, nv3, cv3, sv5, Av5, nv5, cv5, p6, sv7, Av7, nv7, cv7, v8, v9, p11, ⟨hl, HT, HS, E2, E3, E6, HB, FW1, FW3, FW5, FS6, FW7, FV8, FV9, FB11, FC6, FC8, FC9, FC12, FD6_11⟩⟩ := hI
 subst hl
 obtain rfl : b12 = false := hb
 obtain rfl : b9 = true := hn9
 obtain rfl : b11 = true := hn11
 obtain rfl : b7 = true := (FC9 rfl).1
 obtain rfl : b8 = true := (FC9 rfl).2
 have e13 := HT.got 13 (.pointer (some ⟨p11, 0, none⟩)) (by repeat (first | exact List.mem_cons_self .. | apply List.mem_cons_of_mem))
 have e57 := (HT.got 57 (v9) (by repeat (first | exact List.mem_cons_self .. | apply List.mem_cons_of_mem))).trans (congrArg some (FV9 rfl))
 have hbk := (FB11 rfl).2
 have hge := (FB11 rfl).1
 have m0 : w.cell? ⟨p11, 0, none⟩ = some (.bool false) := blk_cell hbk 0
 have m1 : w.cell? ⟨p11, 1, none⟩ = some (.slice none 0 0) := blk_cell hbk 1
 have f0 := blk_frozen hbk 0
 have f1 := blk_frozen hbk 1
 have hk := IntKeep.set2 hbk sv7 Av7 nv7 cv7
 go_simp
 exact ⟨b0, b1, b2, b3, b4, b5, b6, true, true, true, b10, true, true, b13, sv1, Av1, nv1, cv1, sv3, Av3, nv3, cv3, sv5, Av5, nv5, cv5, p6, sv7, Av7, nv7, cv7, v8, v9, p11, ⟨rfl, HT, HS, E2, E3, E6, ((HB.setCell (p := ⟨p11, 0, none⟩) hge _).setCell (p := ⟨p11, 1, none⟩) hge _), (fun h => (FW1 h).keep hk), (fun h => (FW3 h).keep hk), (fun h => (FW5 h).keep hk), (fun h => ⟨(FS6 h).1, blk_far (blk_far (FS6 h).2 (p := ⟨p11, 0, none⟩) (FD6_11 h rfl) _) (p := ⟨p11, 1, none⟩) (FD6_11 h rfl) _⟩), (fun h => (FW7 h).keep hk), FV8, FV9, (fun _ => ⟨hge, blk_put (blk_put hbk 0 _ rfl) 1 _ rfl⟩), FC6, FC8, FC9, (fun _ => ⟨rfl, rfl, rfl⟩), FD6_11⟩⟩
theorem InvA5_s13 (HH : InvA5H x y w0 W s A n c s' A' n' c' t B m d t' B' m' d' g6 sg Ag ng cg) (hop : o.op = .assign (.tmp 58)) (hd : o.dst = some 14) (hg : o.guard = none) (hI : InvA5 x y w0 W s A n c s' A' n' c' t B m d t' B' m' d' g6 sg Ag ng cg base l a w) (hb : l.getD 13 true = false) (hn10 : l.getD 10 false = true) : InvStep (InvA5 x y w0 W s A n c s' A' n' c' t B m d t' B' m' d' g6 sg Ag ng cg base) 13 o ops Q l a w := by
 obtain ⟨HU, HV, HFA, HFB, HF1, HF, HBW, c0, c1, c2, c3, c4, c5, c6, c7, HG, c8, c9⟩ := HH
 unfold InvStep
 have hu43 := Try.underlying43
 have hu45 := Try.underlying45
 obtain ⟨dst, op, ty, pos, after, guard⟩ := o
 simp only at hop hd hg
 subst hop hd hg
 obtain ⟨b0, b1, b2, b3, b4, b5, b6, b7, b8, b9, b10, b11, b12, b13, sv1, Av1, nv1, cv1, sv3, Av3, nv3, cv3, sv5, Av5, nv5, cv5, p6, sv7, Av7, nv7, cv7, v8, v9, p11, ⟨hl, HT, HS, E2, E3, E6, HB, FW1, FW3, FW5, FS6, FW7, FV8, FV9, FB11, FC6, FC8, FC9, FC12, FD6_11⟩⟩ := hI
 subst hl
 obtain rfl : b13 = false := hb
 obtain rfl : b10 = true := hn10
 have e58 := HT.got 58 (.int .i64 0) (by repeat (first | exact List.mem_cons_self .. | apply List.mem_cons_of_mem))
 go_simp
 exact ⟨b0, b1, b2, b3, b4, b5, b6, b7, b8, b9, true, b11, b12, true, sv1, Av1, nv1, cv1, sv3, Av3, nv3, cv3, sv5, Av5, nv5, cv5, p6, sv7, Av7, nv7, cv7, v8, v9, p11, ⟨rfl, HT.put 12 14 _ rfl (show ([49, 50, 51, 52, 53, 54, 55, 56, 48, 57, 58, 13, 14] : List Nat).Nodup from by decide) (by rw [HS]; decide), HS, E2, E3, E6, HB, FW1, FW3, FW5, FS6, FW7, FV8, FV9, FB11, FC6, FC8, FC9, FC12, FD6_11⟩⟩
theorem fadd_calls (u v : Value) (x y : Int) (w0 : World) (hu : FI w0 u x) (hv : FI w0 v y) (hfx : Fit x) (hfy : Fit y) (hf : Fit (x + y)) :
    Calls Try.prog 74 #[u, v] w0 fun e w' => ∃ r, e = .returned (.tuple #[r, .int .i64 0]) ∧ FI w' r (x + y) ∧ Below w0.heap.size w0 w' := by
 have hu43 := Try.underlying43
 have hu45 := Try.underlying45
 obtain ⟨s, A, n, c, s', A', n', c', rfl, HU⟩ := hu.parts
 obtain ⟨t, B, m, d, t', B', m', d', rfl, HV⟩ := hv.parts
 have HFA := Aside0.mk (fi_mk HU.out)
 have HFB := Aside0.mk (fi_mk HV.out)
 have HF1 := Aside0.mk (show Fit 1 from Fit.small (by decide) (by decide))
 clear hu hv
 have HF := Aside0.mk (show Fit x ∧ Fit y ∧ Fit (x + y) ∧ Fit (x * 1) ∧ Fit (y * 1) ∧ Fit (1 * 1) from ⟨hfx, hfy, hf, by rwa [Int.mul_one], by rwa [Int.mul_one], Fit.small (by decide) (by decide)⟩)
 clear hfx hfy hf
 go_enter Try.func74, Try.ntmps74
 go_upto_region 1 with fail
 have hfr := frb_new w0 #[.bool s, .slice A n c, .bool s', .slice A' n' c'] #[.bool t, .slice B m d, .bool t', .slice B' m' d']
 obtain ⟨W, hW⟩ : ∃ W, ((w0.alloc (.cells #[.bool s, .slice A n c, .bool s', .slice A' n' c'] 45)).alloc (.cells #[.bool t, .slice B m d, .bool t', .slice B' m' d'] 45)).alloc (.cells #[.bool false, .slice none 0 0, .bool false, .slice none 0 0] 45) = W := ⟨_, rfl⟩
 rw [hW] at hfr ⊢
 have HB := Aside0.mk hfr
 clear hfr hW
 go_cut [6] (fun s6 wx => ∃ g6 : Nat, s6 = .pointer (some ⟨g6, 0, none⟩) ∧ Aside0 (Bx wx g6 1 ∧ FrB w0 wx #[.bool s, .slice A n c, .bool s', .slice A' n' c'] #[.bool t, .slice B m d, .bool t', .slice B' m' d']))
 case first =>
  have HBW := Aside0.mk HB.out.2.2.2
  have c0 := Aside0.mk (show W.cell? ⟨w0.heap.size, 0, none⟩ = some (.bool s) from blk_cell HB.out.1 0)
  have c1 := Aside0.mk (show W.cell? ⟨w0.heap.size, 1, none⟩ = some (.slice A n c) from blk_cell HB.out.1 1)
  have c2 := Aside0.mk (show W.cell? ⟨w0.heap.size, 2, none⟩ = some (.bool s') from blk_cell HB.out.1 2)
  have c3 := Aside0.mk (show W.cell? ⟨w0.heap.size, 3, none⟩ = some (.slice A' n' c') from blk_cell HB.out.1 3)
  have c4 := Aside0.mk (show W.cell? ⟨w0.heap.size + 1, 0, none⟩ = some (.bool t) from blk_cell HB.out.2.1 0)
  have c5 := Aside0.mk (show W.cell? ⟨w0.heap.size + 1, 1, none⟩ = some (.slice B m d) from blk_cell HB.out.2.1 1)
  have c6 := Aside0.mk (show W.cell? ⟨w0.heap.size + 1, 2, none⟩ = some (.bool t') from blk_cell HB.out.2.1 2)
  have c7 := Aside0.mk (show W.cell? ⟨w0.heap.size + 1, 3, none⟩ = some (.slice B' m' d') from blk_cell HB.out.2.1 3)
  refine region_at (by kernel_rfl) (by kernel_rfl) (InvA1 x y w0 W s A n c s' A' n' c' t B m d t' B' m' d') ?h0 ?hstep ?hdone
  case h0 =>
   exact ⟨false, false, false, false, false, false, false, false, none, 0, 0, false, none, 0, 0, false, none, 0, 0, 0, ⟨rfl, Tm.start _ _ rfl, rfl, rfl, rfl, below_drew1 (Below.refl _ _), (fun h => by cases h), (fun h => by cases h), (fun h => by cases h), (fun h => by cases h), (fun h => by cases h)⟩⟩
  case hstep =>
   intro Q base i o l a w ho hI hb hn
   have hi : i < 7 := by
    have h1 := (Array.getElem?_eq_some_iff.1 ho).1
    simpa using h1
   rcases (by omega : i = 0 ∨ i = 1 ∨ i = 2 ∨ i = 3 ∨ i = 4 ∨ i = 5 ∨ i = 6) with rfl | rfl | rfl | rfl | rfl | rfl | rfl
   ·simp only [List.getElem?_toArray, List.getElem?_cons_succ, List.getElem?_cons_zero, Option.some.injEq] at ho
    subst ho
    exact InvA1_s0 ⟨HU, HV, HFA, HFB, HF1, HF, HBW, c0, c1, c2, c3, c4, c5, c6, c7⟩ rfl rfl rfl hI hb
   ·simp only [List.getElem?_toArray, List.getElem?_cons_succ, List.getElem?_cons_zero, Option.some.injEq] at ho
    subst ho
    exact InvA1_s1 ⟨HU, HV, HFA, HFB, HF1, HF, HBW, c0, c1, c2, c3, c4, c5, c6, c7⟩ rfl rfl rfl hI hb (hn 0 (by decide))
   ·simp only [List.getElem?_toArray, List.getElem?_cons_succ, List.getElem?_cons_zero, Option.some.injEq] at ho
    subst ho
    exact InvA1_s2 ⟨HU, HV, HFA, HFB, HF1, HF, HBW, c0, c1, c2, c3, c4, c5, c6, c7⟩ rfl rfl rfl hI hb
   ·simp only [List.getElem?_toArray, List.getElem?_cons_succ, List.getElem?_cons_zero, Option.some.injEq] at ho
    subst ho
    exact InvA1_s3 ⟨HU, HV, HFA, HFB, HF1, HF, HBW, c0, c1, c2, c3, c4, c5, c6, c7⟩ rfl rfl rfl hI hb (hn 2 (by decide))
   ·simp only [List.getElem?_toArray, List.getElem?_cons_succ, List.getElem?_cons_zero, Option.some.injEq] at ho
    subst ho
    exact InvA1_s4 ⟨HU, HV, HFA, HFB, HF1, HF, HBW, c0, c1, c2, c3, c4, c5, c6, c7⟩ rfl rfl rfl hI hb (hn 1 (by decide)) (hn 3 (by decide))
   ·simp only [List.getElem?_toArray, List.getElem?_cons_succ, List.getElem?_cons_zero, Option.some.injEq] at ho
    subst ho
    exact InvA1_s5 ⟨HU, HV, HFA, HFB, HF1, HF, HBW, c0, c1, c2, c3, c4, c5, c6, c7⟩ rfl rfl rfl hI hb
   ·simp only [List.getElem?_toArray, List.getElem?_cons_succ, List.getElem?_cons_zero, Option.some.injEq] at ho
    subst ho
    exact InvA1_s6 ⟨HU, HV, HFA, HFB, HF1, HF, HBW, c0, c1, c2, c3, c4, c5, c6, c7⟩ rfl rfl rfl hI hb (hn 4 (by decide)) (hn 5 (by decide))
  case hdone =>
   have HB0 := HB
   clear HB
   intro a w hI
   obtain ⟨b0, b1, b2, b3, b4, b5, b6, sv1, Av1, nv1, cv1, sv3, Av3, nv3, cv3, sv4, Av4, nv4, cv4, p5, ⟨hl, HT, HS, E2, E3, HB, FW1, FW3, FW4, FB5, FC6⟩⟩ := hI
   obtain ⟨rfl, rfl, rfl, rfl, rfl, rfl, rfl⟩ : true = b0 ∧ true = b1 ∧ true = b2 ∧ true = b3 ∧ true = b4 ∧ true = b5 ∧ true = b6 := by simpa [List.replicate] using hl
   obtain rfl := HT.fin (by rfl) (show ([15, 16, 17, 18, 19, 6] : List Nat).Nodup from by decide) (by simp)
   simp only [overlay, List.foldl_cons, List.foldl_nil, List.setIfInBounds_toArray, List.set_cons_zero, List.set_cons_succ]
   have HE := Aside0.mk (show Bx w p5 1 ∧ FrB w0 w #[.bool s, .slice A n c, .bool s', .slice A' n' c'] #[.bool t, .slice B m d, .bool t', .slice B' m' d'] from ⟨⟨_, _, _, _, (FB5 rfl).2, FW4 rfl⟩, HB0.out.below HB⟩)
   clear FW1 FW3 FW4 FB5 FC6 HT hl
   go_wp2
   go_meet
   exact ⟨p5, rfl, HE⟩
 case rest =>
  obtain ⟨g6, rfl, HC⟩ := hcut
  clear HB
  obtain ⟨W, rfl⟩ : ∃ W : World, W = wc := ⟨_, rfl⟩
  have HB := Aside0.mk HC.out.2
  have HG6 := Aside0.mk HC.out.1
  clear HC
  go_upto_region 2 with fail
  go_cut [7, 8] (fun s7 s8 wx => ∃ g7 : Nat, s7 = .pointer (some ⟨g7, 0, none⟩) ∧ s8 = .int .i64 0 ∧ Aside0 (Bx wx g7 x ∧ Bx wx g6 1 ∧ FrB w0 wx #[.bool s, .slice A n c, .bool s', .slice A' n' c'] #[.bool t, .slice B m d, .bool t', .slice B' m' d']))
  case first =>
   have HBW := Aside0.mk HB.out.2.2.2
   have c0 := Aside0.mk (show W.cell? ⟨w0.heap.size, 0, none⟩ = some (.bool s) from blk_cell HB.out.1 0)
   have c1 := Aside0.mk (show W.cell? ⟨w0.heap.size, 1, none⟩ = some (.slice A n c) from blk_cell HB.out.1 1)
   have c2 := Aside0.mk (show W.cell? ⟨w0.heap.size, 2, none⟩ = some (.bool s') from blk_cell HB.out.1 2)
   have c3 := Aside0.mk (show W.cell? ⟨w0.heap.size, 3, none⟩ = some (.slice A' n' c') from blk_cell HB.out.1 3)
   have c4 := Aside0.mk (show W.cell? ⟨w0.heap.size + 1, 0, none⟩ = some (.bool t) from blk_cell HB.out.2.1 0)
   have c5 := Aside0.mk (show W.cell? ⟨w0.heap.size + 1, 1, none⟩ = some (.slice B m d) from blk_cell HB.out.2.1 1)
   have c6 := Aside0.mk (show W.cell? ⟨w0.heap.size + 1, 2, none⟩ = some (.bool t') from blk_cell HB.out.2.1 2)
   have c7 := Aside0.mk (show W.cell? ⟨w0.heap.size + 1, 3, none⟩ = some (.slice B' m' d') from blk_cell HB.out.2.1 3)
   obtain ⟨sg, Ag, ng, cg, HG⟩ := HG6.out.parts
   have c8 := Aside0.mk (show W.cell? ⟨g6, 0, none⟩ = some (.bool sg) from blk_cell HG.out.1 0)
   have c9 := Aside0.mk (show W.cell? ⟨g6, 1, none⟩ = some (.slice Ag ng cg) from blk_cell HG.out.1 1)
   refine region_at (by kernel_rfl) (by kernel_rfl) (InvA2 x y w0 W s A n c s' A' n' c' t B m d t' B' m' d' g6 sg Ag ng cg) ?h0 ?hstep ?hdone
   case h0 =>
    exact ⟨false, false, false, false, false, false, false, false, false, false, false, false, false, false, false, none, 0, 0, false, none, 0, 0, 0, false, none, 0, 0, undef, undef, 0, ⟨rfl, Tm.start _ _ rfl, rfl, rfl, rfl, rfl, below_drew1 (Below.refl _ _), (fun h => by cases h), (fun h => by cases h), (fun h => by cases h), (fun h => by cases h), (fun h => by cases h), (fun h => by cases h), (fun h => by cases h), (fun h => by cases h), (fun h => by cases h), (fun h => by cases h), (fun h => by cases h), (fun h => by cases h)⟩⟩
   case hstep =>
    intro Q base i o l a w ho hI hb hn
    have hi : i < 14 := by
     have h1 := (Array.getElem?_eq_some_iff.1 ho).1
     simpa using h1
    rcases (by omega : i = 0 ∨ i = 1 ∨ i = 2 ∨ i = 3 ∨ i = 4 ∨ i = 5 ∨ i = 6 ∨ i = 7 ∨ i = 8 ∨ i = 9 ∨ i = 10 ∨ i = 11 ∨ i = 12 ∨ i = 13) with rfl | rfl | rfl | rfl | rfl | rfl | rfl | rfl | rfl | rfl | rfl | rfl | rfl | rfl
    ·simp only [List.getElem?_toArray, List.getElem?_cons_succ, List.getElem?_cons_zero, Option.some.injEq] at ho
     subst ho
     exact InvA2_s0 ⟨HU, HV, HFA, HFB, HF1, HF, HBW, c0, c1, c2, c3, c4, c5, c6, c7, HG, c8, c9⟩ rfl rfl rfl hI hb
    ·simp only [List.getElem?_toArray, List.getElem?_cons_succ, List.getElem?_cons_zero, Option.some.injEq] at ho
     subst ho
     exact InvA2_s1 ⟨HU, HV, HFA, HFB, HF1, HF, HBW, c0, c1, c2, c3, c4, c5, c6, c7, HG, c8, c9⟩ rfl rfl rfl hI hb (hn 0 (by decide))
    ·simp only [List.getElem?_toArray, List.getElem?_cons_succ, List.getElem?_cons_zero, Option.some.injEq] at ho
     subst ho
     exact InvA2_s2 ⟨HU, HV, HFA, HFB, HF1, HF, HBW, c0, c1, c2, c3, c4, c5, c6, c7, HG, c8, c9⟩ rfl rfl rfl hI hb
    ·simp only [List.getElem?_toArray, List.getElem?_cons_succ, List.getElem?_cons_zero, Option.some.injEq] at ho
     subst ho
     exact InvA2_s3 ⟨HU, HV, HFA, HFB, HF1, HF, HBW, c0, c1, c2, c3, c4, c5, c6, c7, HG, c8, c9⟩ rfl rfl rfl hI hb (hn 2 (by decide))
    ·simp only [List.getElem?_toArray, List.getElem?_cons_succ, List.getElem?_cons_zero, Option.some.injEq] at ho
     subst ho
     exact InvA2_s4 ⟨HU, HV, HFA, HFB, HF1, HF, HBW, c0, c1, c2, c3, c4, c5, c6, c7, HG, c8, c9⟩ rfl rfl rfl hI hb
    ·simp only [List.getElem?_toArray, List.getElem?_cons_succ, List.getElem?_cons_zero, Option.some.injEq] at ho
     subst ho
     exact InvA2_s5 ⟨HU, HV, HFA, HFB, HF1, HF, HBW, c0, c1, c2, c3, c4, c5, c6, c7, HG, c8, c9⟩ rfl rfl rfl hI hb (hn 3 (by decide)) (hn 4 (by decide))
    ·simp only [List.getElem?_toArray, List.getElem?_cons_succ, List.getElem?_cons_zero, Option.some.injEq] at ho
     subst ho
     exact InvA2_s6 ⟨HU, HV, HFA, HFB, HF1, HF, HBW, c0, c1, c2, c3, c4, c5, c6, c7, HG, c8, c9⟩ rfl rfl rfl hI hb (hn 1 (by decide)) (hn 5 (by decide))
    ·simp only [List.getElem?_toArray, List.getElem?_cons_succ, List.getElem?_cons_zero, Option.some.injEq] at ho
     subst ho
     exact InvA2_s7 ⟨HU, HV, HFA, HFB, HF1, HF, HBW, c0, c1, c2, c3, c4, c5, c6, c7, HG, c8, c9⟩ rfl rfl rfl hI hb (hn 6 (by decide)) (hn 5 (by decide))
    ·simp only [List.getElem?_toArray, List.getElem?_cons_succ, List.getElem?_cons_zero, Option.some.injEq] at ho
     subst ho
     exact InvA2_s8 ⟨HU, HV, HFA, HFB, HF1, HF, HBW, c0, c1, c2, c3, c4, c5, c6, c7, HG, c8, c9⟩ rfl rfl rfl hI hb (hn 7 (by decide))
    ·simp only [List.getElem?_toArray, List.getElem?_cons_succ, List.getElem?_cons_zero, Option.some.injEq] at ho
     subst ho
     exact InvA2_s9 ⟨HU, HV, HFA, HFB, HF1, HF, HBW, c0, c1, c2, c3, c4, c5, c6, c7, HG, c8, c9⟩ rfl rfl rfl hI hb (hn 8 (by decide))
    ·simp only [List.getElem?_toArray, List.getElem?_cons_succ, List.getElem?_cons_zero, Option.some.injEq] at ho
     subst ho
     exact InvA2_s10 ⟨HU, HV, HFA, HFB, HF1, HF, HBW, c0, c1, c2, c3, c4, c5, c6, c7, HG, c8, c9⟩ rfl rfl rfl hI hb (hn 8 (by decide))
    ·simp only [List.getElem?_toArray, List.getElem?_cons_succ, List.getElem?_cons_zero, Option.some.injEq] at ho
     subst ho
     exact InvA2_s11 ⟨HU, HV, HFA, HFB, HF1, HF, HBW, c0, c1, c2, c3, c4, c5, c6, c7, HG, c8, c9⟩ rfl rfl rfl hI hb
    ·simp only [List.getElem?_toArray, List.getElem?_cons_succ, List.getElem?_cons_zero, Option.some.injEq] at ho
     subst ho
     exact InvA2_s12 ⟨HU, HV, HFA, HFB, HF1, HF, HBW, c0, c1, c2, c3, c4, c5, c6, c7, HG, c8, c9⟩ rfl rfl rfl hI hb (hn 9 (by decide)) (hn 11 (by decide))
    ·simp only [List.getElem?_toArray, List.getElem?_cons_succ, List.getElem?_cons_zero, Option.some.injEq] at ho
     subst ho
     exact InvA2_s13 ⟨HU, HV, HFA, HFB, HF1, HF, HBW, c0, c1, c2, c3, c4, c5, c6, c7, HG, c8, c9⟩ rfl rfl rfl hI hb (hn 10 (by decide))
   case hdone =>
    have HB0 := HB
    clear HB
    intro a w hI
    obtain ⟨b0, b1, b2, b3, b4, b5, b6, b7, b8, b9, b10, b11, b12, b13, sv3, Av3, nv3, cv3, sv5, Av5, nv5, cv5, p6, sv7, Av7, nv7, cv7, v8, v9, p11, ⟨hl, HT, HS, E2, E3, E6, HB, FW3, FW5, FS6, FW7, FV8, FV9, FB11, FC6, FC8, FC9, FC12, FD6_11⟩⟩ := hI
    obtain ⟨rfl, rfl, rfl, rfl, rfl, rfl, rfl, rfl, rfl, rfl, rfl, rfl, rfl, rfl⟩ : true = b0 ∧ true = b1 ∧ true = b2 ∧ true = b3 ∧ true = b4 ∧ true = b5 ∧ true = b6 ∧ true = b7 ∧ true = b8 ∧ true = b9 ∧ true = b10 ∧ true = b11 ∧ true = b12 ∧ true = b13 := by simpa [List.replicate] using hl
    obtain rfl := HT.fin (by rfl) (show ([21, 22, 23, 24, 25, 26, 27, 28, 20, 29, 30, 7, 8] : List Nat).Nodup from by decide) (by simp)
    simp only [overlay, List.foldl_cons, List.foldl_nil, List.setIfInBounds_toArray, List.set_cons_zero, List.set_cons_succ]
    have HE := Aside0.mk (show Bx w p11 x ∧ Bx w g6 1 ∧ FrB w0 w #[.bool s, .slice A n c, .bool s', .slice A' n' c'] #[.bool t, .slice B m d, .bool t', .slice B' m' d'] from ⟨⟨_, _, _, _, (FB11 rfl).2, FW7 rfl⟩, HG6.out.below HB, HB0.out.below HB⟩)
    clear FW3 FW5 FS6 FW7 FV8 FV9 FB11 FC6 FC8 FC9 FC12 FD6_11 HT hl
    go_wp2
    go_meet
    exact ⟨p11, rfl, rfl, HE⟩
  case rest =>
   obtain ⟨g7, rfl, rfl, HC⟩ := hcut
   clear HB HG6
   obtain ⟨W, rfl⟩ : ∃ W : World, W = wc := ⟨_, rfl⟩
   have HB := Aside0.mk HC.out.2.2
   have HG6 := Aside0.mk HC.out.2.1
   have HG7 := Aside0.mk HC.out.1
   clear HC
   go_upto_region 3 with fail
   go_cut [9, 10] (fun s9 s10 wx => ∃ g9 : Nat, s9 = .pointer (some ⟨g9, 0, none⟩) ∧ s10 = .int .i64 0 ∧ Aside0 (Bx wx g9 y ∧ Bx wx g7 x ∧ Bx wx g6 1 ∧ FrB w0 wx #[.bool s, .slice A n c, .bool s', .slice A' n' c'] #[.bool t, .slice B m d, .bool t', .slice B' m' d']))
   case first =>
    have HBW := Aside0.mk HB.out.2.2.2
    have c0 := Aside0.mk (show W.cell? ⟨w0.heap.size, 0, none⟩ = some (.bool s) from blk_cell HB.out.1 0)
    have c1 := Aside0.mk (show W.cell? ⟨w0.heap.size, 1, none⟩ = some (.slice A n c) from blk_cell HB.out.1 1)
    have c2 := Aside0.mk (show W.cell? ⟨w0.heap.size, 2, none⟩ = some (.bool s') from blk_cell HB.out.1 2)
    have c3 := Aside0.mk (show W.cell? ⟨w0.heap.size, 3, none⟩ = some (.slice A' n' c') from blk_cell HB.out.1 3)
    have c4 := Aside0.mk (show W.cell? ⟨w0.heap.size + 1, 0, none⟩ = some (.bool t) from blk_cell HB.out.2.1 0)
    have c5 := Aside0.mk (show W.cell? ⟨w0.heap.size + 1, 1, none⟩ = some (.slice B m d) from blk_cell HB.out.2.1 1)
    have c6 := Aside0.mk (show W.cell? ⟨w0.heap.size + 1, 2, none⟩ = some (.bool t') from blk_cell HB.out.2.1 2)
    have c7 := Aside0.mk (show W.cell? ⟨w0.heap.size + 1, 3, none⟩ = some (.slice B' m' d') from blk_cell HB.out.2.1 3)
    obtain ⟨sg, Ag, ng, cg, HG⟩ := HG6.out.parts
    have c8 := Aside0.mk (show W.cell? ⟨g6, 0, none⟩ = some (.bool sg) from blk_cell HG.out.1 0)
    have c9 := Aside0.mk (show W.cell? ⟨g6, 1, none⟩ = some (.slice Ag ng cg) from blk_cell HG.out.1 1)
    refine region_at (by kernel_rfl) (by kernel_rfl) (InvA3 x y w0 W s A n c s' A' n' c' t B m d t' B' m' d' g6 sg Ag ng cg) ?h0 ?hstep ?hdone
    case h0 =>
     exact ⟨false, false, false, false, false, false, false, false, false, false, false, false, false, false, false, none, 0, 0, false, none, 0, 0, 0, false, none, 0, 0, undef, undef, 0, ⟨rfl, Tm.start _ _ rfl, rfl, rfl, rfl, rfl, below_drew1 (Below.refl _ _), (fun h => by cases h), (fun h => by cases h), (fun h => by cases h), (fun h => by cases h), (fun h => by cases h), (fun h => by cases h), (fun h => by cases h), (fun h => by cases h), (fun h => by cases h), (fun h => by cases h), (fun h => by cases h), (fun h => by cases h)⟩⟩
    case hstep =>
     intro Q base i o l a w ho hI hb hn
     have hi : i < 14 := by
      have h1 := (Array.getElem?_eq_some_iff.1 ho).1
      simpa using h1
     rcases (by omega : i = 0 ∨ i = 1 ∨ i = 2 ∨ i = 3 ∨ i = 4 ∨ i = 5 ∨ i = 6 ∨ i = 7 ∨ i = 8 ∨ i = 9 ∨ i = 10 ∨ i = 11 ∨ i = 12 ∨ i = 13) with rfl | rfl | rfl | rfl | rfl | rfl | rfl | rfl | rfl | rfl | rfl | rfl | rfl | rfl
     ·simp only [List.getElem?_toArray, List.getElem?_cons_succ, List.getElem?_cons_zero, Option.some.injEq] at ho
      subst ho
      exact InvA3_s0 ⟨HU, HV, HFA, HFB, HF1, HF, HBW, c0, c1, c2, c3, c4, c5, c6, c7, HG, c8, c9⟩ rfl rfl rfl hI hb
     ·simp only [List.getElem?_toArray, List.getElem?_cons_succ, List.getElem?_cons_zero, Option.some.injEq] at ho
      subst ho
      exact InvA3_s1 ⟨HU, HV, HFA, HFB, HF1, HF, HBW, c0, c1, c2, c3, c4, c5, c6, c7, HG, c8, c9⟩ rfl rfl rfl hI hb (hn 0 (by decide))
     ·simp only [List.getElem?_toArray, List.getElem?_cons_succ, List.getElem?_cons_zero, Option.some.injEq] at ho
      subst ho
      exact InvA3_s2 ⟨HU, HV, HFA, HFB, HF1, HF, HBW, c0, c1, c2, c3, c4, c5, c6, c7, HG, c8, c9⟩ rfl rfl rfl hI hb
     ·simp only [List.getElem?_toArray, List.getElem?_cons_succ, List.getElem?_cons_zero, Option.some.injEq] at ho
      subst ho
      exact InvA3_s3 ⟨HU, HV, HFA, HFB, HF1, HF, HBW, c0, c1, c2, c3, c4, c5, c6, c7, HG, c8, c9⟩ rfl rfl rfl hI hb (hn 2 (by decide))
     ·simp only [List.getElem?_toArray, List.getElem?_cons_succ, List.getElem?_cons_zero, Option.some.injEq] at ho
      subst ho
      exact InvA3_s4 ⟨HU, HV, HFA, HFB, HF1, HF, HBW, c0, c1, c2, c3, c4, c5, c6, c7, HG, c8, c9⟩ rfl rfl rfl hI hb
     ·simp only [List.getElem?_toArray, List.getElem?_cons_succ, List.getElem?_cons_zero, Option.some.injEq] at ho
      subst ho
      exact InvA3_s5 ⟨HU, HV, HFA, HFB, HF1, HF, HBW, c0, c1, c2, c3, c4, c5, c6, c7, HG, c8, c9⟩ rfl rfl rfl hI hb (hn 3 (by decide)) (hn 4 (by decide))
     ·simp only [List.getElem?_toArray, List.getElem?_cons_succ, List.getElem?_cons_zero, Option.some.injEq] at ho
      subst ho
      exact InvA3_s6 ⟨HU, HV, HFA, HFB, HF1, HF, HBW, c0, c1, c2, c3, c4, c5, c6, c7, HG, c8, c9⟩ rfl rfl rfl hI hb (hn 1 (by decide)) (hn 5 (by decide))
     ·simp only [List.getElem?_toArray, List.getElem?_cons_succ, List.getElem?_cons_zero, Option.some.injEq] at ho
      subst ho
      exact InvA3_s7 ⟨HU, HV, HFA, HFB, HF1, HF, HBW, c0, c1, c2, c3, c4, c5, c6, c7, HG, c8, c9⟩ rfl rfl rfl hI hb (hn 6 (by decide)) (hn 5 (by decide))
     ·simp only [List.getElem?_toArray, List.getElem?_cons_succ, List.getElem?_cons_zero, Option.some.injEq] at ho
      subst ho
      exact InvA3_s8 ⟨HU, HV, HFA, HFB, HF1, HF, HBW, c0, c1, c2, c3, c4, c5, c6, c7, HG, c8, c9⟩ rfl rfl rfl hI hb (hn 7 (by decide))
     ·simp only [List.getElem?_toArray, List.getElem?_cons_succ, List.getElem?_cons_zero, Option.some.injEq] at ho
      subst ho
      exact InvA3_s9 ⟨HU, HV, HFA, HFB, HF1, HF, HBW, c0, c1, c2, c3, c4, c5, c6, c7, HG, c8, c9⟩ rfl rfl rfl hI hb (hn 8 (by decide))
     ·simp only [List.getElem?_toArray, List.getElem?_cons_succ, List.getElem?_cons_zero, Option.some.injEq] at ho
      subst ho
      exact InvA3_s10 ⟨HU, HV, HFA, HFB, HF1, HF, HBW, c0, c1, c2, c3, c4, c5, c6, c7, HG, c8, c9⟩ rfl rfl rfl hI hb (hn 8 (by decide))
     ·simp only [List.getElem?_toArray, List.getElem?_cons_succ, List.getElem?_cons_zero, Option.some.injEq] at ho
      subst ho
      exact InvA3_s11 ⟨HU, HV, HFA, HFB, HF1, HF, HBW, c0, c1, c2, c3, c4, c5, c6, c7, HG, c8, c9⟩ rfl rfl rfl hI hb
     ·simp only [List.getElem?_toArray, List.getElem?_cons_succ, List.getElem?_cons_zero, Option.some.injEq] at ho
      subst ho
      exact InvA3_s12 ⟨HU, HV, HFA, HFB, HF1, HF, HBW, c0, c1, c2, c3, c4, c5, c6, c7, HG, c8, c9⟩ rfl rfl rfl hI hb (hn 9 (by decide)) (hn 11 (by decide))
     ·simp only [List.getElem?_toArray, List.getElem?_cons_succ, List.getElem?_cons_zero, Option.some.injEq] at ho
      subst ho
      exact InvA3_s13 ⟨HU, HV, HFA, HFB, HF1, HF, HBW, c0, c1, c2, c3, c4, c5, c6, c7, HG, c8, c9⟩ rfl rfl rfl hI hb (hn 10 (by decide))
    case hdone =>
     have HB0 := HB
     clear HB
     intro a w hI
     obtain ⟨b0, b1, b2, b3, b4, b5, b6, b7, b8, b9, b10, b11, b12, b13, sv3, Av3, nv3, cv3, sv5, Av5, nv5, cv5, p6, sv7, Av7, nv7, cv7, v8, v9, p11, ⟨hl, HT, HS, E2, E3, E6, HB, FW3, FW5, FS6, FW7, FV8, FV9, FB11, FC6, FC8, FC9, FC12, FD6_11⟩⟩ := hI
     obtain ⟨rfl, rfl, rfl, rfl, rfl, rfl, rfl, rfl, rfl, rfl, rfl, rfl, rfl, rfl⟩ : true = b0 ∧ true = b1 ∧ true = b2 ∧ true = b3 ∧ true = b4 ∧ true = b5 ∧ true = b6 ∧ true = b7 ∧ true = b8 ∧ true = b9 ∧ true = b10 ∧ true = b11 ∧ true = b12 ∧ true = b13 := by simpa [List.replicate] using hl
     obtain rfl := HT.fin (by rfl) (show ([32, 33, 34, 35, 36, 37, 38, 39, 31, 40, 41, 9, 10] : List Nat).Nodup from by decide) (by simp)
     simp only [overlay, List.foldl_cons, List.foldl_nil, List.setIfInBounds_toArray, List.set_cons_zero, List.set_cons_succ]
     have HE := Aside0.mk (show Bx w p11 y ∧ Bx w g7 x ∧ Bx w g6 1 ∧ FrB w0 w #[.bool s, .slice A n c, .bool s', .slice A' n' c'] #[.bool t, .slice B m d, .bool t', .slice B' m' d'] from ⟨⟨_, _, _, _, (FB11 rfl).2, FW7 rfl⟩, HG7.out.below HB, HG6.out.below HB, HB0.out.below HB⟩)
     clear FW3 FW5 FS6 FW7 FV8 FV9 FB11 FC6 FC8 FC9 FC12 FD6_11 HT hl
     go_wp2
     go_meet
     exact ⟨p11, rfl, rfl, HE⟩
   case rest =>
    obtain ⟨g9, rfl, rfl, HC⟩ := hcut
    clear HB HG6 HG7
    obtain ⟨W, rfl⟩ : ∃ W : World, W = wc := ⟨_, rfl⟩
    go_upto_region 4 with fail
    go_cut [11, 12] (fun s11 s12 wx => ∃ g11 : Nat, s11 = .pointer (some ⟨g11, 0, none⟩) ∧ s12 = .int .i64 0 ∧ Aside0 (Bx wx g11 (x + y) ∧ Bx wx g6 1 ∧ FrB w0 wx #[.bool s, .slice A n c, .bool s', .slice A' n' c'] #[.bool t, .slice B m d, .bool t', .slice B' m' d']))
    case first =>
     obtain ⟨s7, A7, n7, d7, H7⟩ := HC.out.2.1.parts
     obtain ⟨s9, A9, n9, d9, H9⟩ := HC.out.1.parts
     have k0 : W.cell? ⟨g7, 0, none⟩ = some (.bool s7) := blk_cell H7.out.1 0
     have k1 : W.cell? ⟨g7, 1, none⟩ = some (.slice A7 n7 d7) := blk_cell H7.out.1 1
     have k2 : W.cell? ⟨g9, 0, none⟩ = some (.bool s9) := blk_cell H9.out.1 0
     have k3 : W.cell? ⟨g9, 1, none⟩ = some (.slice A9 n9 d9) := blk_cell H9.out.1 1
     go_wp2_with (first
      | (go_at_call 59; (with_reducible refine (add_calls _ _ x y _ H7.out.2 H9.out.2 HF.out.1 HF.out.2.1 HF.out.2.2.1).mono ?_); rintro e w2 ⟨v2, rfl, hX, hb2⟩; obtain ⟨s2, A2, n2, d2, rfl, HX⟩ := hX.parts; have HB2 := Aside0.mk hb2; clear hX hb2)
      | fail)
     go_meet
     exact ⟨w2.heap.size, rfl, rfl, ⟨Bx.new HX.out, (HC.out.2.2.1.below HB2.out).below (below_alloc (Below.refl _ _) _), (HC.out.2.2.2.below HB2.out).below (below_alloc (Below.refl _ _) _)⟩⟩
    case rest =>
     clear HC
     obtain ⟨g11, rfl, rfl, HC⟩ := hcut
     obtain ⟨W, rfl⟩ : ∃ W : World, W = wc := ⟨_, rfl⟩
     have HB := Aside0.mk HC.out.2.2
     have HG6 := Aside0.mk HC.out.2.1
     have HG11 := Aside0.mk HC.out.1
     clear HC
     go_upto_region 5 with fail
     go_cut [13, 14] (fun s13 s14 wx => ∃ g13 : Nat, s13 = .pointer (some ⟨g13, 0, none⟩) ∧ s14 = .int .i64 0 ∧ Aside0 (Bx wx g13 1 ∧ Bx wx g11 (x + y) ∧ FrB w0 wx #[.bool s, .slice A n c, .bool s', .slice A' n' c'] #[.bool t, .slice B m d, .bool t', .slice B' m' d']))
     case first =>
      have HBW := Aside0.mk HB.out.2.2.2
      have c0 := Aside0.mk (show W.cell? ⟨w0.heap.size, 0, none⟩ = some (.bool s) from blk_cell HB.out.1 0)
      have c1 := Aside0.mk (show W.cell? ⟨w0.heap.size, 1, none⟩ = some (.slice A n c) from blk_cell HB.out.1 1)
      have c2 := Aside0.mk (show W.cell? ⟨w0.heap.size, 2, none⟩ = some (.bool s') from blk_cell HB.out.1 2)
      have c3 := Aside0.mk (show W.cell? ⟨w0.heap.size, 3, none⟩ = some (.slice A' n' c') from blk_cell HB.out.1 3)
      have c4 := Aside0.mk (show W.cell? ⟨w0.heap.size + 1, 0, none⟩ = some (.bool t) from blk_cell HB.out.2.1 0)
      have c5 := Aside0.mk (show W.cell? ⟨w0.heap.size + 1, 1, none⟩ = some (.slice B m d) from blk_cell HB.out.2.1 1)
      have c6 := Aside0.mk (show W.cell? ⟨w0.heap.size + 1, 2, none⟩ = some (.bool t') from blk_cell HB.out.2.1 2)
      have c7 := Aside0.mk (show W.cell? ⟨w0.heap.size + 1, 3, none⟩ = some (.slice B' m' d') from blk_cell HB.out.2.1 3)
      obtain ⟨sg, Ag, ng, cg, HG⟩ := HG6.out.parts
      have c8 := Aside0.mk (show W.cell? ⟨g6, 0, none⟩ = some (.bool sg) from blk_cell HG.out.1 0)
      have c9 := Aside0.mk (show W.cell? ⟨g6, 1, none⟩ = some (.slice Ag ng cg) from blk_cell HG.out.1 1)
      refine region_at (by kernel_rfl) (by kernel_rfl) (InvA5 x y w0 W s A n c s' A' n' c' t B m d t' B' m' d' g6 sg Ag ng cg) ?h0 ?hstep ?hdone
      case h0 =>
       exact ⟨false, false, false, false, false, false, false, false, false, false, false, false, false, false, false, none, 0, 0, false, none, 0, 0, false, none, 0, 0, 0, false, none, 0, 0, undef, undef, 0, ⟨rfl, Tm.start _ _ rfl, rfl, rfl, rfl, rfl, below_drew1 (Below.refl _ _), (fun h => by cases h), (fun h => by cases h), (fun h => by cases h), (fun h => by cases h), (fun h => by cases h), (fun h => by cases h), (fun h => by cases h), (fun h => by cases h), (fun h => by cases h), (fun h => by cases h), (fun h => by cases h), (fun h => by cases h), (fun h => by cases h)⟩⟩
      case hstep =>
       intro Q base i o l a w ho hI hb hn
       have hi : i < 14 := by
        have h1 := (Array.getElem?_eq_some_iff.1 ho).1
        simpa using h1
       rcases (by omega : i = 0 ∨ i = 1 ∨ i = 2 ∨ i = 3 ∨ i = 4 ∨ i = 5 ∨ i = 6 ∨ i = 7 ∨ i = 8 ∨ i = 9 ∨ i = 10 ∨ i = 11 ∨ i = 12 ∨ i = 13) with rfl | rfl | rfl | rfl | rfl | rfl | rfl | rfl | rfl | rfl | rfl | rfl | rfl | rfl
       ·simp only [List.getElem?_toArray, List.getElem?_cons_succ, List.getElem?_cons_zero, Option.some.injEq] at ho
        subst ho
        exact InvA5_s0 ⟨HU, HV, HFA, HFB, HF1, HF, HBW, c0, c1, c2, c3, c4, c5, c6, c7, HG, c8, c9⟩ rfl rfl rfl hI hb
       ·simp only [List.getElem?_toArray, List.getElem?_cons_succ, List.getElem?_cons_zero, Option.some.injEq] at ho
        subst ho
        exact InvA5_s1 ⟨HU, HV, HFA, HFB, HF1, HF, HBW, c0, c1, c2, c3, c4, c5, c6, c7, HG, c8, c9⟩ rfl rfl rfl hI hb (hn 0 (by decide))
       ·simp only [List.getElem?_toArray, List.getElem?_cons_succ, List.getElem?_cons_zero, Option.some.injEq] at ho
        subst ho
        exact InvA5_s2 ⟨HU, HV, HFA, HFB, HF1, HF, HBW, c0, c1, c2, c3, c4, c5, c6, c7, HG, c8, c9⟩ rfl rfl rfl hI hb
       ·simp only [List.getElem?_toArray, List.getElem?_cons_succ, List.getElem?_cons_zero, Option.some.injEq] at ho
        subst ho
        exact InvA5_s3 ⟨HU, HV, HFA, HFB, HF1, HF, HBW, c0, c1, c2, c3, c4, c5, c6, c7, HG, c8, c9⟩ rfl rfl rfl hI hb (hn 1 (by decide)) (hn 2 (by decide))
       ·simp only [List.getElem?_toArray, List.getElem?_cons_succ, List.getElem?_cons_zero, Option.some.injEq] at ho
        subst ho
        exact InvA5_s4 ⟨HU, HV, HFA, HFB, HF1, HF, HBW, c0, c1, c2, c3, c4, c5, c6, c7, HG, c8, c9⟩ rfl rfl rfl hI hb
       ·simp only [List.getElem?_toArray, List.getElem?_cons_succ, List.getElem?_cons_zero, Option.some.injEq] at ho
        subst ho
        exact InvA5_s5 ⟨HU, HV, HFA, HFB, HF1, HF, HBW, c0, c1, c2, c3, c4, c5, c6, c7, HG, c8, c9⟩ rfl rfl rfl hI hb (hn 4 (by decide))
       ·simp only [List.getElem?_toArray, List.getElem?_cons_succ, List.getElem?_cons_zero, Option.some.injEq] at ho
        subst ho
        exact InvA5_s6 ⟨HU, HV, HFA, HFB, HF1, HF, HBW, c0, c1, c2, c3, c4, c5, c6, c7, HG, c8, c9⟩ rfl rfl rfl hI hb (hn 3 (by decide)) (hn 5 (by decide))
       ·simp only [List.getElem?_toArray, List.getElem?_cons_succ, List.getElem?_cons_zero, Option.some.injEq] at ho
        subst ho
        exact InvA5_s7 ⟨HU, HV, HFA, HFB, HF1, HF, HBW, c0, c1, c2, c3, c4, c5, c6, c7, HG, c8, c9⟩ rfl rfl rfl hI hb (hn 6 (by decide))
       ·simp only [List.getElem?_toArray, List.getElem?_cons_succ, List.getElem?_cons_zero, Option.some.injEq] at ho
        subst ho
        exact InvA5_s8 ⟨HU, HV, HFA, HFB, HF1, HF, HBW, c0, c1, c2, c3, c4, c5, c6, c7, HG, c8, c9⟩ rfl rfl rfl hI hb (hn 7 (by decide))
       ·simp only [List.getElem?_toArray, List.getElem?_cons_succ, List.getElem?_cons_zero, Option.some.injEq] at ho
        subst ho
        exact InvA5_s9 ⟨HU, HV, HFA, HFB, HF1, HF, HBW, c0, c1, c2, c3, c4, c5, c6, c7, HG, c8, c9⟩ rfl rfl rfl hI hb (hn 8 (by decide))
       ·simp only [List.getElem?_toArray, List.getElem?_cons_succ, List.getElem?_cons_zero, Option.some.injEq] at ho
        subst ho
        exact InvA5_s10 ⟨HU, HV, HFA, HFB, HF1, HF, HBW, c0, c1, c2, c3, c4, c5, c6, c7, HG, c8, c9⟩ rfl rfl rfl hI hb (hn 8 (by decide))
       ·simp only [List.getElem?_toArray, List.getElem?_cons_succ, List.getElem?_cons_zero, Option.some.injEq] at ho
        subst ho
        exact InvA5_s11 ⟨HU, HV, HFA, HFB, HF1, HF, HBW, c0, c1, c2, c3, c4, c5, c6, c7, HG, c8, c9⟩ rfl rfl rfl hI hb
       ·simp only [List.getElem?_toArray, List.getElem?_cons_succ, List.getElem?_cons_zero, Option.some.injEq] at ho
        subst ho
        exact InvA5_s12 ⟨HU, HV, HFA, HFB, HF1, HF, HBW, c0, c1, c2, c3, c4, c5, c6, c7, HG, c8, c9⟩ rfl rfl rfl hI hb (hn 9 (by decide)) (hn 11 (by decide))
       ·simp only [List.getElem?_toArray, List.getElem?_cons_succ, List.getElem?_cons_zero, Option.some.injEq] at ho
        subst ho
        exact InvA5_s13 ⟨HU, HV, HFA, HFB, HF1, HF, HBW, c0, c1, c2, c3, c4, c5, c6, c7, HG, c8, c9⟩ rfl rfl rfl hI hb (hn 10 (by decide))
      case hdone =>
       have HB0 := HB
       clear HB
       intro a w hI
       obtain ⟨b0, b1, b2, b3, b4, b5, b6, b7, b8, b9, b10, b11, b12, b13, sv1, Av1, nv1, cv1, sv3, Av3, nv3, cv3, sv5, Av5, nv5, cv5, p6, sv7, Av7, nv7, cv7, v8, v9, p11, ⟨hl, HT, HS, E2, E3, E6, HB, FW1, FW3, FW5, FS6, FW7, FV8, FV9, FB11, FC6, FC8, FC9, FC12, FD6_11⟩⟩ := hI
       obtain ⟨rfl, rfl, rfl, rfl, rfl, rfl, rfl, rfl, rfl, rfl, rfl, rfl, rfl, rfl⟩ : true = b0 ∧ true = b1 ∧ true = b2 ∧ true = b3 ∧ true = b4 ∧ true = b5 ∧ true = b6 ∧ true = b7 ∧ true = b8 ∧ true = b9 ∧ true = b10 ∧ true = b11 ∧ true = b12 ∧ true = b13 := by simpa [List.replicate] using hl
       obtain rfl := HT.fin (by rfl) (show ([49, 50, 51, 52, 53, 54, 55, 56, 48, 57, 58, 13, 14] : List Nat).Nodup from by decide) (by simp)
       simp only [overlay, List.foldl_cons, List.foldl_nil, List.setIfInBounds_toArray, List.set_cons_zero, List.set_cons_succ]
       have HE := Aside0.mk (show Bx w p11 1 ∧ Bx w g11 (x + y) ∧ FrB w0 w #[.bool s, .slice A n c, .bool s', .slice A' n' c'] #[.bool t, .slice B m d, .bool t', .slice B' m' d'] from ⟨⟨_, _, _, _, (FB11 rfl).2, FW7 rfl⟩, HG11.out.below HB, HB0.out.below HB⟩)
       clear FW1 FW3 FW5 FS6 FW7 FV8 FV9 FB11 FC6 FC8 FC9 FC12 FD6_11 HT hl
       go_wp2
       go_meet
       exact ⟨p11, rfl, rfl, HE⟩
     case rest =>
      obtain ⟨g13, rfl, rfl, HC⟩ := hcut
      clear HB HG6 HG11
      obtain ⟨W, rfl⟩ : ∃ W : World, W = wc := ⟨_, rfl⟩
      obtain ⟨s7, A7, n7, d7, H7⟩ := HC.out.2.1.parts
      obtain ⟨s9, A9, n9, d9, H9⟩ := HC.out.1.parts
      have k0 : W.cell? ⟨g11, 0, none⟩ = some (.bool s7) := blk_cell H7.out.1 0
      have k1 : W.cell? ⟨g11, 1, none⟩ = some (.slice A7 n7 d7) := blk_cell H7.out.1 1
      have k2 : W.cell? ⟨g13, 0, none⟩ = some (.bool s9) := blk_cell H9.out.1 0
      have k3 : W.cell? ⟨g13, 1, none⟩ = some (.slice A9 n9 d9) := blk_cell H9.out.1 1
      have B4 := Aside0.mk HC.out.2.2.2.2.1
      go_wp2_with (first
       | (go_at_call 47; (with_reducible refine (make_calls _ _ (x + y) _ H7.out.2 H9.out.2 HF.out.2.2.1).mono ?_); rintro e w3 ⟨v3, rfl, hW3, hb3⟩; obtain ⟨s3, A3, n3, c3, s4, A4, n4, c4, rfl, HW3⟩ := hW3.parts; have HB3 := Aside0.mk (below_step HC.out.2.2.2.2.2 hb3); have B3 := Aside0.mk (blk_below B4.out hb3); have f0 := blk_frozen B3.out 0; have f1 := blk_frozen B3.out 1; have f2 := blk_frozen B3.out 2; have f3 := blk_frozen B3.out 3; have m0 : w3.cell? ⟨w0.heap.size + 1 + 1, 0, none⟩ = some (.bool false) := blk_cell B3.out 0; have m1 : w3.cell? ⟨w0.heap.size + 1 + 1, 1, none⟩ = some (.slice none 0 0) := blk_cell B3.out 1; have m2 : w3.cell? ⟨w0.heap.size + 1 + 1, 2, none⟩ = some (.bool false) := blk_cell B3.out 2; have m3 : w3.cell? ⟨w0.heap.size + 1 + 1, 3, none⟩ = some (.slice none 0 0) := blk_cell B3.out 3; clear hW3 hb3)
       | fail)
      have hend := fi_put B3.out HB3.out (by omega) HW3.out.1 HW3.out.2
      refine bodyPost_ret (results_ct5 rfl _ _ (w0.heap.size + 1 + 1) _ _ _ _ _ rfl rfl hend.2.2) rfl ?_
      exact ⟨_, rfl, hend.1, hend.2.1⟩
end Go.Proofs.Ytjmkccabpnigiaa.P
