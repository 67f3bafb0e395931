import Derived.Test.YtjmkccabpnigiaaQPolyP
namespace Go.Proofs.Ytjmkccabpnigiaa.P
open Go.RowKit Go.Proofs.YtjmkccabpnigiaaW.PrintWords Go.Proofs.YtjmkccabpnigiaaW.PrintLast Go.Proofs.YtjmkccabpnigiaaW.PrintMore
attribute [local go_sem] max2_int min2_int max_two min_two max_three min_three max_four min_four
set_option linter.unusedVariables false
set_option linter.unusedSimpArgs false
set_option maxHeartbeats 1000000
set_option maxRecDepth 100000
section
variable {A ad : Addr} {c gp : Nat} {i X Y : Int} {r : List S26} {q q2 : Bool} {W : World} {B : Array Value → Prop} {DS : List Nat} {PS : List (World → Value → Prop)} {ops : Array Oper} {o : Oper}
theorem lv6_s0 (hop : o.op = .load 33 (.tmp 1)) (hd : o.dst = some 21) (hg : o.guard = none) (f1 : 1 ∉ DS) (b1 : ∀ base, B base → base[1]? = some (.pointer (some ⟨gp, 0, none⟩))) (kp : W.cell? ⟨gp, 0, none⟩ = some (.slice (some A) 1 c)) : StepOK Try.prog ops W B DS PS o 21 (fun _ v => v = .agg #[.slice (some A) 1 c]) := by
 intro Q base ac w hB hbel hsz hn hfar
 obtain ⟨dst, op, ty, pos, after, guard⟩ := o
 simp only at hop hd hg
 subst hop hd hg
 refine ⟨rfl, ?_⟩
 have e1 := (hfar 1 f1).trans (b1 base hB)
 have ckp := pw_cell_below hbel kp
 clear hn hfar b1
 go_simp
 exact ⟨_, rfl, (by first | with_reducible rfl | (rw [i64_w]) | (rw [Go.IntKind.wrap_i64]; rfl) | rfl), Below.refl _ _⟩
theorem lv6_s1 (hop : o.op = .move (.tmp 2)) (hd : o.dst = some 22) (hg : o.guard = none) (f2 : 2 ∉ DS) (b2 : ∀ base, B base → base[2]? = some (.slice (some ad) 4 4)) : StepOK Try.prog ops W B DS PS o 22 (fun _ v => v = .slice (some ad) 4 4) := by
 intro Q base ac w hB hbel hsz hn hfar
 obtain ⟨dst, op, ty, pos, after, guard⟩ := o
 simp only at hop hd hg
 subst hop hd hg
 refine ⟨rfl, ?_⟩
 have e2 := (hfar 2 f2).trans (b2 base hB)
 clear hn hfar b2
 go_simp
 exact ⟨_, rfl, (by first | with_reducible rfl | (rw [i64_w]) | (rw [Go.IntKind.wrap_i64]; rfl) | rfl), Below.refl _ _⟩
theorem lv6_s2 (hop : o.op = .move (.tmp 3)) (hd : o.dst = some 23) (hg : o.guard = none) (f3 : 3 ∉ DS) (b3 : ∀ base, B base → base[3]? = some (.int .i64 i)) : StepOK Try.prog ops W B DS PS o 23 (fun _ v => v = .int .i64 i) := by
 intro Q base ac w hB hbel hsz hn hfar
 obtain ⟨dst, op, ty, pos, after, guard⟩ := o
 simp only at hop hd hg
 subst hop hd hg
 refine ⟨rfl, ?_⟩
 have e3 := (hfar 3 f3).trans (b3 base hB)
 clear hn hfar b3
 go_simp
 exact ⟨_, rfl, (by first | with_reducible rfl | (rw [i64_w]) | (rw [Go.IntKind.wrap_i64]; rfl) | rfl), Below.refl _ _⟩
theorem lv6_s3 (hop : o.op = .indexAddr 57 (.tmp 22) (.tmp 23)) (hd : o.dst = some 24) (hg : o.guard = none) (n1 : 1 ∈ needsOf .any o) (d1 : DS[1]? = some 22) (p1 : PS[1]? = some (fun _ v => v = .slice (some ad) 4 4)) (n2 : 2 ∈ needsOf .any o) (d2 : DS[2]? = some 23) (p2 : PS[2]? = some (fun _ v => v = .int .i64 i)) (hi0 : 0 ≤ i) (hi4 : i < 4) : StepOK Try.prog ops W B DS PS o 24 (fun _ v => v = .pointer (some (ad.add (i.toNat * 3)))) := by
 intro Q base ac w hB hbel hsz hn hfar
 obtain ⟨dst, op, ty, pos, after, guard⟩ := o
 simp only at hop hd hg
 subst hop hd hg
 refine ⟨rfl, ?_⟩
 obtain ⟨v1, e1, rfl⟩ := hn 1 n1 _ _ d1 p1
 obtain ⟨v2, e2, rfl⟩ := hn 2 n2 _ _ d2 p2
 clear hn hfar
 go_simp
 exact ⟨_, rfl, (by first | with_reducible rfl | (rw [i64_w]) | (rw [Go.IntKind.wrap_i64]; rfl) | rfl), Below.refl _ _⟩
theorem lv6_s4 (hop : o.op = .indexAddr 56 (.tmp 24) (.const (.int .i64 0))) (hd : o.dst = some 25) (hg : o.guard = none) (n3 : 3 ∈ needsOf .any o) (d3 : DS[3]? = some 24) (p3 : PS[3]? = some (fun _ v => v = .pointer (some (ad.add (i.toNat * 3))))) : StepOK Try.prog ops W B DS PS o 25 (fun _ v => v = .pointer (some (ad.add (i.toNat * 3)))) := by
 intro Q base ac w hB hbel hsz hn hfar
 obtain ⟨dst, op, ty, pos, after, guard⟩ := o
 simp only at hop hd hg
 subst hop hd hg
 refine ⟨rfl, ?_⟩
 obtain ⟨v3, e3, rfl⟩ := hn 3 n3 _ _ d3 p3
 clear hn hfar
 go_simp
 exact ⟨_, rfl, (by first | with_reducible rfl | (rw [i64_w]) | (rw [Go.IntKind.wrap_i64]; rfl) | rfl), Below.refl _ _⟩
theorem lv6_s5 (hop : o.op = .load 3 (.tmp 25)) (hd : o.dst = some 26) (hg : o.guard = none) (n4 : 4 ∈ needsOf .any o) (d4 : DS[4]? = some 25) (p4 : PS[4]? = some (fun _ v => v = .pointer (some (ad.add (i.toNat * 3))))) (kx : W.cell? (ad.add (i.toNat * 3)) = some (.int .i64 X)) : StepOK Try.prog ops W B DS PS o 26 (fun _ v => v = .int .i64 X) := by
 intro Q base ac w hB hbel hsz hn hfar
 obtain ⟨dst, op, ty, pos, after, guard⟩ := o
 simp only at hop hd hg
 subst hop hd hg
 refine ⟨rfl, ?_⟩
 obtain ⟨v4, e4, rfl⟩ := hn 4 n4 _ _ d4 p4
 have ckx := pw_cell_below hbel kx
 clear hn hfar
 go_simp
 exact ⟨_, rfl, (by first | with_reducible rfl | (rw [i64_w]) | (rw [Go.IntKind.wrap_i64]; rfl) | rfl), Below.refl _ _⟩
theorem lv6_s6 (hop : o.op = .call { callee := Go.Callee.value (.func 15), args := #[.tmp 26], argTypes := #[3] }) (hd : o.dst = some 27) (hg : o.guard = none) (n5 : 5 ∈ needsOf .any o) (d5 : DS[5]? = some 26) (p5 : PS[5]? = some (fun _ v => v = .int .i64 X)) (rx0 : -4294967296 ≤ X) (rx1 : X ≤ 4294967296) : StepOK Try.prog ops W B DS PS o 27 (fun w v => FI w v X) := by
 intro Q base ac w hB hbel hsz hn hfar
 obtain ⟨dst, op, ty, pos, after, guard⟩ := o
 simp only at hop hd hg
 subst hop hd hg
 refine ⟨rfl, ?_⟩
 obtain ⟨v5, e5, rfl⟩ := hn 5 n5 _ _ d5 p5
 clear hn hfar
 go_simp
 go_at_call 15
 refine (lwhole_calls X (by omega) (by omega) _).mono ?_
 rintro e w2 ⟨rr, rfl, hf, hb2⟩
 exact ⟨_, rfl, hf, hb2⟩
theorem lv6_s7 (hop : o.op = .move (.tmp 2)) (hd : o.dst = some 28) (hg : o.guard = none) (f2 : 2 ∉ DS) (b2 : ∀ base, B base → base[2]? = some (.slice (some ad) 4 4)) : StepOK Try.prog ops W B DS PS o 28 (fun _ v => v = .slice (some ad) 4 4) := by
 intro Q base ac w hB hbel hsz hn hfar
 obtain ⟨dst, op, ty, pos, after, guard⟩ := o
 simp only at hop hd hg
 subst hop hd hg
 refine ⟨rfl, ?_⟩
 have e2 := (hfar 2 f2).trans (b2 base hB)
 clear hn hfar b2
 go_simp
 exact ⟨_, rfl, (by first | with_reducible rfl | (rw [i64_w]) | (rw [Go.IntKind.wrap_i64]; rfl) | rfl), Below.refl _ _⟩
theorem lv6_s8 (hop : o.op = .move (.tmp 3)) (hd : o.dst = some 29) (hg : o.guard = none) (f3 : 3 ∉ DS) (b3 : ∀ base, B base → base[3]? = some (.int .i64 i)) : StepOK Try.prog ops W B DS PS o 29 (fun _ v => v = .int .i64 i) := by
 intro Q base ac w hB hbel hsz hn hfar
 obtain ⟨dst, op, ty, pos, after, guard⟩ := o
 simp only at hop hd hg
 subst hop hd hg
 refine ⟨rfl, ?_⟩
 have e3 := (hfar 3 f3).trans (b3 base hB)
 clear hn hfar b3
 go_simp
 exact ⟨_, rfl, (by first | with_reducible rfl | (rw [i64_w]) | (rw [Go.IntKind.wrap_i64]; rfl) | rfl), Below.refl _ _⟩
theorem lv6_s9 (hop : o.op = .indexAddr 57 (.tmp 28) (.tmp 29)) (hd : o.dst = some 30) (hg : o.guard = none) (n7 : 7 ∈ needsOf .any o) (d7 : DS[7]? = some 28) (p7 : PS[7]? = some (fun _ v => v = .slice (some ad) 4 4)) (n8 : 8 ∈ needsOf .any o) (d8 : DS[8]? = some 29) (p8 : PS[8]? = some (fun _ v => v = .int .i64 i)) (hi0 : 0 ≤ i) (hi4 : i < 4) : StepOK Try.prog ops W B DS PS o 30 (fun _ v => v = .pointer (some (ad.add (i.toNat * 3)))) := by
 intro Q base ac w hB hbel hsz hn hfar
 obtain ⟨dst, op, ty, pos, after, guard⟩ := o
 simp only at hop hd hg
 subst hop hd hg
 refine ⟨rfl, ?_⟩
 obtain ⟨v7, e7, rfl⟩ := hn 7 n7 _ _ d7 p7
 obtain ⟨v8, e8, rfl⟩ := hn 8 n8 _ _ d8 p8
 clear hn hfar
 go_simp
 exact ⟨_, rfl, (by first | with_reducible rfl | (rw [i64_w]) | (rw [Go.IntKind.wrap_i64]; rfl) | rfl), Below.refl _ _⟩
theorem lv6_s10 (hop : o.op = .indexAddr 56 (.tmp 30) (.const (.int .i64 1))) (hd : o.dst = some 31) (hg : o.guard = none) (n9 : 9 ∈ needsOf .any o) (d9 : DS[9]? = some 30) (p9 : PS[9]? = some (fun _ v => v = .pointer (some (ad.add (i.toNat * 3))))) : StepOK Try.prog ops W B DS PS o 31 (fun _ v => v = .pointer (some ⟨(ad.add (i.toNat * 3)).block, (ad.add (i.toNat * 3)).off + 1, none⟩)) := by
 intro Q base ac w hB hbel hsz hn hfar
 obtain ⟨dst, op, ty, pos, after, guard⟩ := o
 simp only at hop hd hg
 subst hop hd hg
 refine ⟨rfl, ?_⟩
 obtain ⟨v9, e9, rfl⟩ := hn 9 n9 _ _ d9 p9
 clear hn hfar
 go_simp
 exact ⟨_, rfl, (by first | with_reducible rfl | (rw [i64_w]) | (rw [Go.IntKind.wrap_i64]; rfl) | rfl), Below.refl _ _⟩
theorem lv6_s11 (hop : o.op = .load 3 (.tmp 31)) (hd : o.dst = some 32) (hg : o.guard = none) (n10 : 10 ∈ needsOf .any o) (d10 : DS[10]? = some 31) (p10 : PS[10]? = some (fun _ v => v = .pointer (some ⟨(ad.add (i.toNat * 3)).block, (ad.add (i.toNat * 3)).off + 1, none⟩))) (ky : W.cell? ⟨(ad.add (i.toNat * 3)).block, (ad.add (i.toNat * 3)).off + 1, none⟩ = some (.int .i64 Y)) : StepOK Try.prog ops W B DS PS o 32 (fun _ v => v = .int .i64 Y) := by
 intro Q base ac w hB hbel hsz hn hfar
 obtain ⟨dst, op, ty, pos, after, guard⟩ := o
 simp only at hop hd hg
 subst hop hd hg
 refine ⟨rfl, ?_⟩
 obtain ⟨v10, e10, rfl⟩ := hn 10 n10 _ _ d10 p10
 have cky := pw_cell_below hbel ky
 clear hn hfar
 go_simp
 exact ⟨_, rfl, (by first | with_reducible rfl | (rw [i64_w]) | (rw [Go.IntKind.wrap_i64]; rfl) | rfl), Below.refl _ _⟩
theorem lv6_s12 (hop : o.op = .call { callee := Go.Callee.value (.func 15), args := #[.tmp 32], argTypes := #[3] }) (hd : o.dst = some 33) (hg : o.guard = none) (n11 : 11 ∈ needsOf .any o) (d11 : DS[11]? = some 32) (p11 : PS[11]? = some (fun _ v => v = .int .i64 Y)) (ry0 : -4294967296 ≤ Y) (ry1 : Y ≤ 4294967296) : StepOK Try.prog ops W B DS PS o 33 (fun w v => FI w v Y) := by
 intro Q base ac w hB hbel hsz hn hfar
 obtain ⟨dst, op, ty, pos, after, guard⟩ := o
 simp only at hop hd hg
 subst hop hd hg
 refine ⟨rfl, ?_⟩
 obtain ⟨v11, e11, rfl⟩ := hn 11 n11 _ _ d11 p11
 clear hn hfar
 go_simp
 go_at_call 15
 refine (lwhole_calls Y (by omega) (by omega) _).mono ?_
 rintro e w2 ⟨rr, rfl, hf, hb2⟩
 exact ⟨_, rfl, hf, hb2⟩
theorem lv6_s13 (hop : o.op = .call { callee := Go.Callee.value (.func 24), args := #[.tmp 21, .tmp 27, .tmp 33], argTypes := #[33, 45, 45] }) (hd : o.dst = some 34) (hg : o.guard = none) (n0 : 0 ∈ needsOf .any o) (d0 : DS[0]? = some 21) (p0 : PS[0]? = some (fun _ v => v = .agg #[.slice (some A) 1 c])) (n6 : 6 ∈ needsOf .any o) (d6 : DS[6]? = some 27) (p6 : PS[6]? = some (fun w v => FI w v X)) (n12 : 12 ∈ needsOf .any o) (d12 : DS[12]? = some 33) (p12 : PS[12]? = some (fun w v => FI w v Y)) (hC : Kd.C (Kd.slice 26 k26) W (some A) 1 [r]) (hc : 1 ≤ c) (hT : r.length ≤ 1000000) (hv : valid1P r = 0) (rx0 : -4294967296 ≤ X) (rx1 : X ≤ 4294967296) (ry0 : -4294967296 ≤ Y) (ry1 : Y ≤ 4294967296) (hio : aroundP r X Y = (q, q2)) : StepOK Try.prog ops W B DS PS o 34 (fun _ v => v = .tuple #[.bool q, .int .i64 0]) := by
 intro Q base ac w hB hbel hsz hn hfar
 obtain ⟨dst, op, ty, pos, after, guard⟩ := o
 simp only at hop hd hg
 subst hop hd hg
 refine ⟨rfl, ?_⟩
 obtain ⟨v0, e0, rfl⟩ := hn 0 n0 _ _ d0 p0
 obtain ⟨v6, e6, h6⟩ := hn 6 n6 _ _ d6 p6
 obtain ⟨v12, e12, h12⟩ := hn 12 n12 _ _ d12 p12
 clear hn hfar
 go_simp
 go_at_call 24
 refine (has1_calls _ _ r _ _ X Y _ (Kd.C_below hC hbel) hc hT hv h6 h12 ⟨rx0, rx1⟩ ⟨ry0, ry1⟩ q q2 hio).mono ?_
 rintro e w2 ⟨rfl, hb2⟩
 exact ⟨_, rfl, rfl, hb2⟩
theorem lv6_s14 (hop : o.op = .move (.tmp 34)) (hd : o.dst = some 20) (hg : o.guard = none) (n13 : 13 ∈ needsOf .any o) (d13 : DS[13]? = some 34) (p13 : PS[13]? = some (fun _ v => v = .tuple #[.bool q, .int .i64 0])) : StepOK Try.prog ops W B DS PS o 20 (fun _ v => v = .tuple #[.bool q, .int .i64 0]) := by
 intro Q base ac w hB hbel hsz hn hfar
 obtain ⟨dst, op, ty, pos, after, guard⟩ := o
 simp only at hop hd hg
 subst hop hd hg
 refine ⟨rfl, ?_⟩
 obtain ⟨v13, e13, rfl⟩ := hn 13 n13 _ _ d13 p13
 clear hn hfar
 go_simp
 exact ⟨_, rfl, (by first | with_reducible rfl | (rw [i64_w]) | (rw [Go.IntKind.wrap_i64]; rfl) | rfl), Below.refl _ _⟩
theorem lv6_s15 (hop : o.op = .extract (.tmp 20) 0) (hd : o.dst = some 35) (hg : o.guard = none) (n14 : 14 ∈ needsOf .any o) (d14 : DS[14]? = some 20) (p14 : PS[14]? = some (fun _ v => v = .tuple #[.bool q, .int .i64 0])) : StepOK Try.prog ops W B DS PS o 35 (fun _ v => v = .bool q) := by
 intro Q base ac w hB hbel hsz hn hfar
 obtain ⟨dst, op, ty, pos, after, guard⟩ := o
 simp only at hop hd hg
 subst hop hd hg
 refine ⟨rfl, ?_⟩
 obtain ⟨v14, e14, rfl⟩ := hn 14 n14 _ _ d14 p14
 clear hn hfar
 go_simp
 exact ⟨_, rfl, (by first | with_reducible rfl | (rw [i64_w]) | (rw [Go.IntKind.wrap_i64]; rfl) | rfl), Below.refl _ _⟩
theorem lv6_s16 (hop : o.op = .extract (.tmp 20) 1) (hd : o.dst = some 36) (hg : o.guard = none) (n14 : 14 ∈ needsOf .any o) (d14 : DS[14]? = some 20) (p14 : PS[14]? = some (fun _ v => v = .tuple #[.bool q, .int .i64 0])) : StepOK Try.prog ops W B DS PS o 36 (fun _ v => v = .int .i64 0) := by
 intro Q base ac w hB hbel hsz hn hfar
 obtain ⟨dst, op, ty, pos, after, guard⟩ := o
 simp only at hop hd hg
 subst hop hd hg
 refine ⟨rfl, ?_⟩
 obtain ⟨v14, e14, rfl⟩ := hn 14 n14 _ _ d14 p14
 clear hn hfar
 go_simp
 exact ⟨_, rfl, (by first | with_reducible rfl | (rw [i64_w]) | (rw [Go.IntKind.wrap_i64]; rfl) | rfl), Below.refl _ _⟩
theorem lv6_s17 (hop : o.op = .assign (.tmp 35)) (hd : o.dst = some 4) (hg : o.guard = none) (n15 : 15 ∈ needsOf .any o) (d15 : DS[15]? = some 35) (p15 : PS[15]? = some (fun _ v => v = .bool q)) : StepOK Try.prog ops W B DS PS o 4 (fun _ v => v = .bool q) := by
 intro Q base ac w hB hbel hsz hn hfar
 obtain ⟨dst, op, ty, pos, after, guard⟩ := o
 simp only at hop hd hg
 subst hop hd hg
 refine ⟨rfl, ?_⟩
 obtain ⟨v15, e15, rfl⟩ := hn 15 n15 _ _ d15 p15
 clear hn hfar
 go_simp
 exact ⟨_, rfl, (by first | with_reducible rfl | (rw [i64_w]) | (rw [Go.IntKind.wrap_i64]; rfl) | rfl), Below.refl _ _⟩
theorem lv6_s18 (hop : o.op = .assign (.tmp 36)) (hd : o.dst = some 5) (hg : o.guard = none) (n16 : 16 ∈ needsOf .any o) (d16 : DS[16]? = some 36) (p16 : PS[16]? = some (fun _ v => v = .int .i64 0)) : StepOK Try.prog ops W B DS PS o 5 (fun _ v => v = .int .i64 0) := by
 intro Q base ac w hB hbel hsz hn hfar
 obtain ⟨dst, op, ty, pos, after, guard⟩ := o
 simp only at hop hd hg
 subst hop hd hg
 refine ⟨rfl, ?_⟩
 obtain ⟨v16, e16, rfl⟩ := hn 16 n16 _ _ d16 p16
 clear hn hfar
 go_simp
 exact ⟨_, rfl, (by first | with_reducible rfl | (rw [i64_w]) | (rw [Go.IntKind.wrap_i64]; rfl) | rfl), Below.refl _ _⟩
end
section
variable {A ad : Addr} {c gp : Nat} {i X Y : Int} {r : List S26} {q q2 : Bool} {W : World} {B : Array Value → Prop} {DS : List Nat} {PS : List (World → Value → Prop)} {ops : Array Oper} {o : Oper}
theorem lv7_s0 (hop : o.op = .load 33 (.tmp 1)) (hd : o.dst = some 38) (hg : o.guard = none) (f1 : 1 ∉ DS) (b1 : ∀ base, B base → base[1]? = some (.pointer (some ⟨gp, 0, none⟩))) (kp : W.cell? ⟨gp, 0, none⟩ = some (.slice (some A) 1 c)) : StepOK Try.prog ops W B DS PS o 38 (fun _ v => v = .agg #[.slice (some A) 1 c]) := by
 intro Q base ac w hB hbel hsz hn hfar
 obtain ⟨dst, op, ty, pos, after, guard⟩ := o
 simp only at hop hd hg
 subst hop hd hg
 refine ⟨rfl, ?_⟩
 have e1 := (hfar 1 f1).trans (b1 base hB)
 have ckp := pw_cell_below hbel kp
 clear hn hfar b1
 go_simp
 exact ⟨_, rfl, (by first | with_reducible rfl | (rw [i64_w]) | (rw [Go.IntKind.wrap_i64]; rfl) | rfl), Below.refl _ _⟩
theorem lv7_s1 (hop : o.op = .move (.tmp 2)) (hd : o.dst = some 39) (hg : o.guard = none) (f2 : 2 ∉ DS) (b2 : ∀ base, B base → base[2]? = some (.slice (some ad) 4 4)) : StepOK Try.prog ops W B DS PS o 39 (fun _ v => v = .slice (some ad) 4 4) := by
 intro Q base ac w hB hbel hsz hn hfar
 obtain ⟨dst, op, ty, pos, after, guard⟩ := o
 simp only at hop hd hg
 subst hop hd hg
 refine ⟨rfl, ?_⟩
 have e2 := (hfar 2 f2).trans (b2 base hB)
 clear hn hfar b2
 go_simp
 exact ⟨_, rfl, (by first | with_reducible rfl | (rw [i64_w]) | (rw [Go.IntKind.wrap_i64]; rfl) | rfl), Below.refl _ _⟩
theorem lv7_s2 (hop : o.op = .move (.tmp 3)) (hd : o.dst = some 40) (hg : o.guard = none) (f3 : 3 ∉ DS) (b3 : ∀ base, B base → base[3]? = some (.int .i64 i)) : StepOK Try.prog ops W B DS PS o 40 (fun _ v => v = .int .i64 i) := by
 intro Q base ac w hB hbel hsz hn hfar
 obtain ⟨dst, op, ty, pos, after, guard⟩ := o
 simp only at hop hd hg
 subst hop hd hg
 refine ⟨rfl, ?_⟩
 have e3 := (hfar 3 f3).trans (b3 base hB)
 clear hn hfar b3
 go_simp
 exact ⟨_, rfl, (by first | with_reducible rfl | (rw [i64_w]) | (rw [Go.IntKind.wrap_i64]; rfl) | rfl), Below.refl _ _⟩
theorem lv7_s3 (hop : o.op = .indexAddr 57 (.tmp 39) (.tmp 40)) (hd : o.dst = some 41) (hg : o.guard = none) (n1 : 1 ∈ needsOf .any o) (d1 : DS[1]? = some 39) (p1 : PS[1]? = some (fun _ v => v = .slice (some ad) 4 4)) (n2 : 2 ∈ needsOf .any o) (d2 : DS[2]? = some 40) (p2 : PS[2]? = some (fun _ v => v = .int .i64 i)) (hi0 : 0 ≤ i) (hi4 : i < 4) : StepOK Try.prog ops W B DS PS o 41 (fun _ v => v = .pointer (some (ad.add (i.toNat * 3)))) := by
 intro Q base ac w hB hbel hsz hn hfar
 obtain ⟨dst, op, ty, pos, after, guard⟩ := o
 simp only at hop hd hg
 subst hop hd hg
 refine ⟨rfl, ?_⟩
 obtain ⟨v1, e1, rfl⟩ := hn 1 n1 _ _ d1 p1
 obtain ⟨v2, e2, rfl⟩ := hn 2 n2 _ _ d2 p2
 clear hn hfar
 go_simp
 exact ⟨_, rfl, (by first | with_reducible rfl | (rw [i64_w]) | (rw [Go.IntKind.wrap_i64]; rfl) | rfl), Below.refl _ _⟩
theorem lv7_s4 (hop : o.op = .indexAddr 56 (.tmp 41) (.const (.int .i64 0))) (hd : o.dst = some 42) (hg : o.guard = none) (n3 : 3 ∈ needsOf .any o) (d3 : DS[3]? = some 41) (p3 : PS[3]? = some (fun _ v => v = .pointer (some (ad.add (i.toNat * 3))))) : StepOK Try.prog ops W B DS PS o 42 (fun _ v => v = .pointer (some (ad.add (i.toNat * 3)))) := by
 intro Q base ac w hB hbel hsz hn hfar
 obtain ⟨dst, op, ty, pos, after, guard⟩ := o
 simp only at hop hd hg
 subst hop hd hg
 refine ⟨rfl, ?_⟩
 obtain ⟨v3, e3, rfl⟩ := hn 3 n3 _ _ d3 p3
 clear hn hfar
 go_simp
 exact ⟨_, rfl, (by first | with_reducible rfl | (rw [i64_w]) | (rw [Go.IntKind.wrap_i64]; rfl) | rfl), Below.refl _ _⟩
theorem lv7_s5 (hop : o.op = .load 3 (.tmp 42)) (hd : o.dst = some 43) (hg : o.guard = none) (n4 : 4 ∈ needsOf .any o) (d4 : DS[4]? = some 42) (p4 : PS[4]? = some (fun _ v => v = .pointer (some (ad.add (i.toNat * 3))))) (kx : W.cell? (ad.add (i.toNat * 3)) = some (.int .i64 X)) : StepOK Try.prog ops W B DS PS o 43 (fun _ v => v = .int .i64 X) := by
 intro Q base ac w hB hbel hsz hn hfar
 obtain ⟨dst, op, ty, pos, after, guard⟩ := o
 simp only at hop hd hg
 subst hop hd hg
 refine ⟨rfl, ?_⟩
 obtain ⟨v4, e4, rfl⟩ := hn 4 n4 _ _ d4 p4
 have ckx := pw_cell_below hbel kx
 clear hn hfar
 go_simp
 exact ⟨_, rfl, (by first | with_reducible rfl | (rw [i64_w]) | (rw [Go.IntKind.wrap_i64]; rfl) | rfl), Below.refl _ _⟩
theorem lv7_s6 (hop : o.op = .call { callee := Go.Callee.value (.func 15), args := #[.tmp 43], argTypes := #[3] }) (hd : o.dst = some 44) (hg : o.guard = none) (n5 : 5 ∈ needsOf .any o) (d5 : DS[5]? = some 43) (p5 : PS[5]? = some (fun _ v => v = .int .i64 X)) (rx0 : -4294967296 ≤ X) (rx1 : X ≤ 4294967296) : StepOK Try.prog ops W B DS PS o 44 (fun w v => FI w v X) := by
 intro Q base ac w hB hbel hsz hn hfar
 obtain ⟨dst, op, ty, pos, after, guard⟩ := o
 simp only at hop hd hg
 subst hop hd hg
 refine ⟨rfl, ?_⟩
 obtain ⟨v5, e5, rfl⟩ := hn 5 n5 _ _ d5 p5
 clear hn hfar
 go_simp
 go_at_call 15
 refine (lwhole_calls X (by omega) (by omega) _).mono ?_
 rintro e w2 ⟨rr, rfl, hf, hb2⟩
 exact ⟨_, rfl, hf, hb2⟩
theorem lv7_s7 (hop : o.op = .move (.tmp 2)) (hd : o.dst = some 45) (hg : o.guard = none) (f2 : 2 ∉ DS) (b2 : ∀ base, B base → base[2]? = some (.slice (some ad) 4 4)) : StepOK Try.prog ops W B DS PS o 45 (fun _ v => v = .slice (some ad) 4 4) := by
 intro Q base ac w hB hbel hsz hn hfar
 obtain ⟨dst, op, ty, pos, after, guard⟩ := o
 simp only at hop hd hg
 subst hop hd hg
 refine ⟨rfl, ?_⟩
 have e2 := (hfar 2 f2).trans (b2 base hB)
 clear hn hfar b2
 go_simp
 exact ⟨_, rfl, (by first | with_reducible rfl | (rw [i64_w]) | (rw [Go.IntKind.wrap_i64]; rfl) | rfl), Below.refl _ _⟩
theorem lv7_s8 (hop : o.op = .move (.tmp 3)) (hd : o.dst = some 46) (hg : o.guard = none) (f3 : 3 ∉ DS) (b3 : ∀ base, B base → base[3]? = some (.int .i64 i)) : StepOK Try.prog ops W B DS PS o 46 (fun _ v => v = .int .i64 i) := by
 intro Q base ac w hB hbel hsz hn hfar
 obtain ⟨dst, op, ty, pos, after, guard⟩ := o
 simp only at hop hd hg
 subst hop hd hg
 refine ⟨rfl, ?_⟩
 have e3 := (hfar 3 f3).trans (b3 base hB)
 clear hn hfar b3
 go_simp
 exact ⟨_, rfl, (by first | with_reducible rfl | (rw [i64_w]) | (rw [Go.IntKind.wrap_i64]; rfl) | rfl), Below.refl _ _⟩
theorem lv7_s9 (hop : o.op = .indexAddr 57 (.tmp 45) (.tmp 46)) (hd : o.dst = some 47) (hg : o.guard = none) (n7 : 7 ∈ needsOf .any o) (d7 : DS[7]? = some 45) (p7 : PS[7]? = some (fun _ v => v = .slice (some ad) 4 4)) (n8 : 8 ∈ needsOf .any o) (d8 : DS[8]? = some 46) (p8 : PS[8]? = some (fun _ v => v = .int .i64 i)) (hi0 : 0 ≤ i) (hi4 : i < 4) : StepOK Try.prog ops W B DS PS o 47 (fun _ v => v = .pointer (some (ad.add (i.toNat * 3)))) := by
 intro Q base ac w hB hbel hsz hn hfar
 obtain ⟨dst, op, ty, pos, after, guard⟩ := o
 simp only at hop hd hg
 subst hop hd hg
 refine ⟨rfl, ?_⟩
 obtain ⟨v7, e7, rfl⟩ := hn 7 n7 _ _ d7 p7
 obtain ⟨v8, e8, rfl⟩ := hn 8 n8 _ _ d8 p8
 clear hn hfar
 go_simp
 exact ⟨_, rfl, (by first | with_reducible rfl | (rw [i64_w]) | (rw [Go.IntKind.wrap_i64]; rfl) | rfl), Below.refl _ _⟩
theorem lv7_s10 (hop : o.op = .indexAddr 56 (.tmp 47) (.const (.int .i64 1))) (hd : o.dst = some 48) (hg : o.guard = none) (n9 : 9 ∈ needsOf .any o) (d9 : DS[9]? = some 47) (p9 : PS[9]? = some (fun _ v => v = .pointer (some (ad.add (i.toNat * 3))))) : StepOK Try.prog ops W B DS PS o 48 (fun _ v => v = .pointer (some ⟨(ad.add (i.toNat * 3)).block, (ad.add (i.toNat * 3)).off + 1, none⟩)) := by
 intro Q base ac w hB hbel hsz hn hfar
 obtain ⟨dst, op, ty, pos, after, guard⟩ := o
 simp only at hop hd hg
 subst hop hd hg
 refine ⟨rfl, ?_⟩
 obtain ⟨v9, e9, rfl⟩ := hn 9 n9 _ _ d9 p9
 clear hn hfar
 go_simp
 exact ⟨_, rfl, (by first | with_reducible rfl | (rw [i64_w]) | (rw [Go.IntKind.wrap_i64]; rfl) | rfl), Below.refl _ _⟩
theorem lv7_s11 (hop : o.op = .load 3 (.tmp 48)) (hd : o.dst = some 49) (hg : o.guard = none) (n10 : 10 ∈ needsOf .any o) (d10 : DS[10]? = some 48) (p10 : PS[10]? = some (fun _ v => v = .pointer (some ⟨(ad.add (i.toNat * 3)).block, (ad.add (i.toNat * 3)).off + 1, none⟩))) (ky : W.cell? ⟨(ad.add (i.toNat * 3)).block, (ad.add (i.toNat * 3)).off + 1, none⟩ = some (.int .i64 Y)) : StepOK Try.prog ops W B DS PS o 49 (fun _ v => v = .int .i64 Y) := by
 intro Q base ac w hB hbel hsz hn hfar
 obtain ⟨dst, op, ty, pos, after, guard⟩ := o
 simp only at hop hd hg
 subst hop hd hg
 refine ⟨rfl, ?_⟩
 obtain ⟨v10, e10, rfl⟩ := hn 10 n10 _ _ d10 p10
 have cky := pw_cell_below hbel ky
 clear hn hfar
 go_simp
 exact ⟨_, rfl, (by first | with_reducible rfl | (rw [i64_w]) | (rw [Go.IntKind.wrap_i64]; rfl) | rfl), Below.refl _ _⟩
theorem lv7_s12 (hop : o.op = .call { callee := Go.Callee.value (.func 15), args := #[.tmp 49], argTypes := #[3] }) (hd : o.dst = some 50) (hg : o.guard = none) (n11 : 11 ∈ needsOf .any o) (d11 : DS[11]? = some 49) (p11 : PS[11]? = some (fun _ v => v = .int .i64 Y)) (ry0 : -4294967296 ≤ Y) (ry1 : Y ≤ 4294967296) : StepOK Try.prog ops W B DS PS o 50 (fun w v => FI w v Y) := by
 intro Q base ac w hB hbel hsz hn hfar
 obtain ⟨dst, op, ty, pos, after, guard⟩ := o
 simp only at hop hd hg
 subst hop hd hg
 refine ⟨rfl, ?_⟩
 obtain ⟨v11, e11, rfl⟩ := hn 11 n11 _ _ d11 p11
 clear hn hfar
 go_simp
 go_at_call 15
 refine (lwhole_calls Y (by omega) (by omega) _).mono ?_
 rintro e w2 ⟨rr, rfl, hf, hb2⟩
 exact ⟨_, rfl, hf, hb2⟩
theorem lv7_s13 (hop : o.op = .call { callee := Go.Callee.value (.func 14), args := #[.tmp 38, .tmp 44, .tmp 50], argTypes := #[33, 45, 45] }) (hd : o.dst = some 51) (hg : o.guard = none) (n0 : 0 ∈ needsOf .any o) (d0 : DS[0]? = some 38) (p0 : PS[0]? = some (fun _ v => v = .agg #[.slice (some A) 1 c])) (n6 : 6 ∈ needsOf .any o) (d6 : DS[6]? = some 44) (p6 : PS[6]? = some (fun w v => FI w v X)) (n12 : 12 ∈ needsOf .any o) (d12 : DS[12]? = some 50) (p12 : PS[12]? = some (fun w v => FI w v Y)) (hC : Kd.C (Kd.slice 26 k26) W (some A) 1 [r]) (hc : 1 ≤ c) (hT : r.length ≤ 1000000) (hv : valid1P r = 0) (rx0 : -4294967296 ≤ X) (rx1 : X ≤ 4294967296) (ry0 : -4294967296 ≤ Y) (ry1 : Y ≤ 4294967296) (hio : aroundP r X Y = (q, q2)) : StepOK Try.prog ops W B DS PS o 51 (fun _ v => v = .tuple #[.int .i64 (if q2 then 0 else if q then 1 else -1), .int .i64 0]) := by
 intro Q base ac w hB hbel hsz hn hfar
 obtain ⟨dst, op, ty, pos, after, guard⟩ := o
 simp only at hop hd hg
 subst hop hd hg
 refine ⟨rfl, ?_⟩
 obtain ⟨v0, e0, rfl⟩ := hn 0 n0 _ _ d0 p0
 obtain ⟨v6, e6, h6⟩ := hn 6 n6 _ _ d6 p6
 obtain ⟨v12, e12, h12⟩ := hn 12 n12 _ _ d12 p12
 clear hn hfar
 go_simp
 go_at_call 14
 refine (side1_calls _ _ r _ _ X Y _ (Kd.C_below hC hbel) hc hT hv h6 h12 ⟨rx0, rx1⟩ ⟨ry0, ry1⟩ q q2 hio).mono ?_
 rintro e w2 ⟨rfl, hb2⟩
 exact ⟨_, rfl, rfl, hb2⟩
theorem lv7_s14 (hop : o.op = .move (.tmp 51)) (hd : o.dst = some 37) (hg : o.guard = none) (n13 : 13 ∈ needsOf .any o) (d13 : DS[13]? = some 51) (p13 : PS[13]? = some (fun _ v => v = .tuple #[.int .i64 (if q2 then 0 else if q then 1 else -1), .int .i64 0])) : StepOK Try.prog ops W B DS PS o 37 (fun _ v => v = .tuple #[.int .i64 (if q2 then 0 else if q then 1 else -1), .int .i64 0]) := by
 intro Q base ac w hB hbel hsz hn hfar
 obtain ⟨dst, op, ty, pos, after, guard⟩ := o
 simp only at hop hd hg
 subst hop hd hg
 refine ⟨rfl, ?_⟩
 obtain ⟨v13, e13, rfl⟩ := hn 13 n13 _ _ d13 p13
 clear hn hfar
 go_simp
 exact ⟨_, rfl, (by first | with_reducible rfl | (rw [i64_w]) | (rw [Go.IntKind.wrap_i64]; rfl) | rfl), Below.refl _ _⟩
theorem lv7_s15 (hop : o.op = .extract (.tmp 37) 0) (hd : o.dst = some 52) (hg : o.guard = none) (n14 : 14 ∈ needsOf .any o) (d14 : DS[14]? = some 37) (p14 : PS[14]? = some (fun _ v => v = .tuple #[.int .i64 (if q2 then 0 else if q then 1 else -1), .int .i64 0])) : StepOK Try.prog ops W B DS PS o 52 (fun _ v => v = .int .i64 (if q2 then 0 else if q then 1 else -1)) := by
 intro Q base ac w hB hbel hsz hn hfar
 obtain ⟨dst, op, ty, pos, after, guard⟩ := o
 simp only at hop hd hg
 subst hop hd hg
 refine ⟨rfl, ?_⟩
 obtain ⟨v14, e14, rfl⟩ := hn 14 n14 _ _ d14 p14
 clear hn hfar
 go_simp
 exact ⟨_, rfl, (by first | with_reducible rfl | (rw [i64_w]) | (rw [Go.IntKind.wrap_i64]; rfl) | rfl), Below.refl _ _⟩
theorem lv7_s16 (hop : o.op = .extract (.tmp 37) 1) (hd : o.dst = some 53) (hg : o.guard = none) (n14 : 14 ∈ needsOf .any o) (d14 : DS[14]? = some 37) (p14 : PS[14]? = some (fun _ v => v = .tuple #[.int .i64 (if q2 then 0 else if q then 1 else -1), .int .i64 0])) : StepOK Try.prog ops W B DS PS o 53 (fun _ v => v = .int .i64 0) := by
 intro Q base ac w hB hbel hsz hn hfar
 obtain ⟨dst, op, ty, pos, after, guard⟩ := o
 simp only at hop hd hg
 subst hop hd hg
 refine ⟨rfl, ?_⟩
 obtain ⟨v14, e14, rfl⟩ := hn 14 n14 _ _ d14 p14
 clear hn hfar
 go_simp
 exact ⟨_, rfl, (by first | with_reducible rfl | (rw [i64_w]) | (rw [Go.IntKind.wrap_i64]; rfl) | rfl), Below.refl _ _⟩
theorem lv7_s17 (hop : o.op = .assign (.tmp 52)) (hd : o.dst = some 6) (hg : o.guard = none) (n15 : 15 ∈ needsOf .any o) (d15 : DS[15]? = some 52) (p15 : PS[15]? = some (fun _ v => v = .int .i64 (if q2 then 0 else if q then 1 else -1))) : StepOK Try.prog ops W B DS PS o 6 (fun _ v => v = .int .i64 (if q2 then 0 else if q then 1 else -1)) := by
 intro Q base ac w hB hbel hsz hn hfar
 obtain ⟨dst, op, ty, pos, after, guard⟩ := o
 simp only at hop hd hg
 subst hop hd hg
 refine ⟨rfl, ?_⟩
 obtain ⟨v15, e15, rfl⟩ := hn 15 n15 _ _ d15 p15
 clear hn hfar
 go_simp
 exact ⟨_, rfl, (by first | with_reducible rfl | (rw [i64_w]) | (rw [Go.IntKind.wrap_i64]; rfl) | rfl), Below.refl _ _⟩
theorem lv7_s18 (hop : o.op = .assign (.tmp 53)) (hd : o.dst = some 7) (hg : o.guard = none) (n16 : 16 ∈ needsOf .any o) (d16 : DS[16]? = some 53) (p16 : PS[16]? = some (fun _ v => v = .int .i64 0)) : StepOK Try.prog ops W B DS PS o 7 (fun _ v => v = .int .i64 0) := by
 intro Q base ac w hB hbel hsz hn hfar
 obtain ⟨dst, op, ty, pos, after, guard⟩ := o
 simp only at hop hd hg
 subst hop hd hg
 refine ⟨rfl, ?_⟩
 obtain ⟨v16, e16, rfl⟩ := hn 16 n16 _ _ d16 p16
 clear hn hfar
 go_simp
 exact ⟨_, rfl, (by first | with_reducible rfl | (rw [i64_w]) | (rw [Go.IntKind.wrap_i64]; rfl) | rfl), Below.refl _ _⟩
end
end Go.Proofs.Ytjmkccabpnigiaa.P
