import Derived.Test.YtjmkccabpnigiaaQPolyC
import Derived.Test.YtjmkccabpnigiaaQPolyD
namespace Go.Proofs.Ytjmkccabpnigiaa.P
open Go.RowKit Go.Proofs.YtjmkccabpnigiaaW.PrintWords Go.Proofs.YtjmkccabpnigiaaW.PrintLast Go.Proofs.YtjmkccabpnigiaaW.PrintMore
attribute [local go_sem] max2_int min2_int max_two min_two max_three min_three max_four min_four
set_option linter.unusedVariables false
set_option linter.unusedSimpArgs false
set_option maxHeartbeats 1000000
set_option maxRecDepth 100000
section
variable {a b c d : S26} {g4 g5 g6 g7 g9 g10 : Nat} {q1 q2 h1 h2 h3 h4 : Bool} {W : World} {B : Array Value → Prop} {DS : List Nat} {PS : List (World → Value → Prop)} {ops : Array Oper} {o : Oper}
theorem cr4_s0 (hop : o.op = .load 26 (.tmp 4)) (hd : o.dst = some 24) (hg : o.guard = none) (f4 : 4 ∉ DS) (b4 : ∀ base, B base → base[4]? = some (.pointer (some ⟨g4, 0, none⟩))) (k4_0 : W.cell? ⟨g4, 0, none⟩ = some (.int .i64 a.f0)) (k4_1 : W.cell? ⟨g4, 1, none⟩ = some (.int .i64 a.f1)) : StepOK Try.prog ops W B DS PS o 24 (fun _ v => v = .agg #[.int .i64 a.f0, .int .i64 a.f1]) := by
 intro Q base ac w hB hbel hsz hn hfar
 obtain ⟨dst, op, ty, pos, after, guard⟩ := o
 simp only at hop hd hg
 subst hop hd hg
 refine ⟨rfl, ?_⟩
 have e4 := (hfar 4 f4).trans (b4 base hB)
 have ck4_0 := pw_cell_below hbel k4_0
 have ck4_1 := pw_cell_below hbel k4_1
 clear hn hfar b4
 go_simp
 exact ⟨_, rfl, (by first | with_reducible rfl | (rw [i64_w]) | (rw [Go.IntKind.wrap_i64]; rfl) | rfl), Below.refl _ _⟩
theorem cr4_s1 (hop : o.op = .load 26 (.tmp 5)) (hd : o.dst = some 25) (hg : o.guard = none) (f5 : 5 ∉ DS) (b5 : ∀ base, B base → base[5]? = some (.pointer (some ⟨g5, 0, none⟩))) (k5_0 : W.cell? ⟨g5, 0, none⟩ = some (.int .i64 b.f0)) (k5_1 : W.cell? ⟨g5, 1, none⟩ = some (.int .i64 b.f1)) : StepOK Try.prog ops W B DS PS o 25 (fun _ v => v = .agg #[.int .i64 b.f0, .int .i64 b.f1]) := by
 intro Q base ac w hB hbel hsz hn hfar
 obtain ⟨dst, op, ty, pos, after, guard⟩ := o
 simp only at hop hd hg
 subst hop hd hg
 refine ⟨rfl, ?_⟩
 have e5 := (hfar 5 f5).trans (b5 base hB)
 have ck5_0 := pw_cell_below hbel k5_0
 have ck5_1 := pw_cell_below hbel k5_1
 clear hn hfar b5
 go_simp
 exact ⟨_, rfl, (by first | with_reducible rfl | (rw [i64_w]) | (rw [Go.IntKind.wrap_i64]; rfl) | rfl), Below.refl _ _⟩
theorem cr4_s2 (hop : o.op = .load 26 (.tmp 6)) (hd : o.dst = some 26) (hg : o.guard = none) (f6 : 6 ∉ DS) (b6 : ∀ base, B base → base[6]? = some (.pointer (some ⟨g6, 0, none⟩))) (k6_0 : W.cell? ⟨g6, 0, none⟩ = some (.int .i64 c.f0)) (k6_1 : W.cell? ⟨g6, 1, none⟩ = some (.int .i64 c.f1)) : StepOK Try.prog ops W B DS PS o 26 (fun _ v => v = .agg #[.int .i64 c.f0, .int .i64 c.f1]) := by
 intro Q base ac w hB hbel hsz hn hfar
 obtain ⟨dst, op, ty, pos, after, guard⟩ := o
 simp only at hop hd hg
 subst hop hd hg
 refine ⟨rfl, ?_⟩
 have e6 := (hfar 6 f6).trans (b6 base hB)
 have ck6_0 := pw_cell_below hbel k6_0
 have ck6_1 := pw_cell_below hbel k6_1
 clear hn hfar b6
 go_simp
 exact ⟨_, rfl, (by first | with_reducible rfl | (rw [i64_w]) | (rw [Go.IntKind.wrap_i64]; rfl) | rfl), Below.refl _ _⟩
theorem cr4_s3 (hop : o.op = .call { callee := Go.Callee.value (.func 6), args := #[.tmp 24, .tmp 25, .tmp 26], argTypes := #[26, 26, 26] }) (hd : o.dst = some 27) (hg : o.guard = none) (n0 : 0 ∈ needsOf .any o) (d0 : DS[0]? = some 24) (p0 : PS[0]? = some (fun _ v => v = .agg #[.int .i64 a.f0, .int .i64 a.f1])) (n1 : 1 ∈ needsOf .any o) (d1 : DS[1]? = some 25) (p1 : PS[1]? = some (fun _ v => v = .agg #[.int .i64 b.f0, .int .i64 b.f1])) (n2 : 2 ∈ needsOf .any o) (d2 : DS[2]? = some 26) (p2 : PS[2]? = some (fun _ v => v = .agg #[.int .i64 c.f0, .int .i64 c.f1])) : StepOK Try.prog ops W B DS PS o 27 (fun _ v => v = .int .i64 (turnP a b c)) := by
 intro Q base ac w hB hbel hsz hn hfar
 obtain ⟨dst, op, ty, pos, after, guard⟩ := o
 simp only at hop hd hg
 subst hop hd hg
 refine ⟨rfl, ?_⟩
 obtain ⟨v0, e0, rfl⟩ := hn 0 n0 _ _ d0 p0
 obtain ⟨v1, e1, rfl⟩ := hn 1 n1 _ _ d1 p1
 obtain ⟨v2, e2, rfl⟩ := hn 2 n2 _ _ d2 p2
 clear hn hfar
 go_simp
 go_at_call 6
 refine (turn_calls a b c _).mono ?_
 rintro e w2 ⟨rfl, hb2⟩
 exact ⟨_, rfl, rfl, hb2⟩
theorem cr4_s4 (hop : o.op = .load 26 (.tmp 4)) (hd : o.dst = some 28) (hg : o.guard = none) (f4 : 4 ∉ DS) (b4 : ∀ base, B base → base[4]? = some (.pointer (some ⟨g4, 0, none⟩))) (k4_0 : W.cell? ⟨g4, 0, none⟩ = some (.int .i64 a.f0)) (k4_1 : W.cell? ⟨g4, 1, none⟩ = some (.int .i64 a.f1)) : StepOK Try.prog ops W B DS PS o 28 (fun _ v => v = .agg #[.int .i64 a.f0, .int .i64 a.f1]) := by
 intro Q base ac w hB hbel hsz hn hfar
 obtain ⟨dst, op, ty, pos, after, guard⟩ := o
 simp only at hop hd hg
 subst hop hd hg
 refine ⟨rfl, ?_⟩
 have e4 := (hfar 4 f4).trans (b4 base hB)
 have ck4_0 := pw_cell_below hbel k4_0
 have ck4_1 := pw_cell_below hbel k4_1
 clear hn hfar b4
 go_simp
 exact ⟨_, rfl, (by first | with_reducible rfl | (rw [i64_w]) | (rw [Go.IntKind.wrap_i64]; rfl) | rfl), Below.refl _ _⟩
theorem cr4_s5 (hop : o.op = .load 26 (.tmp 5)) (hd : o.dst = some 29) (hg : o.guard = none) (f5 : 5 ∉ DS) (b5 : ∀ base, B base → base[5]? = some (.pointer (some ⟨g5, 0, none⟩))) (k5_0 : W.cell? ⟨g5, 0, none⟩ = some (.int .i64 b.f0)) (k5_1 : W.cell? ⟨g5, 1, none⟩ = some (.int .i64 b.f1)) : StepOK Try.prog ops W B DS PS o 29 (fun _ v => v = .agg #[.int .i64 b.f0, .int .i64 b.f1]) := by
 intro Q base ac w hB hbel hsz hn hfar
 obtain ⟨dst, op, ty, pos, after, guard⟩ := o
 simp only at hop hd hg
 subst hop hd hg
 refine ⟨rfl, ?_⟩
 have e5 := (hfar 5 f5).trans (b5 base hB)
 have ck5_0 := pw_cell_below hbel k5_0
 have ck5_1 := pw_cell_below hbel k5_1
 clear hn hfar b5
 go_simp
 exact ⟨_, rfl, (by first | with_reducible rfl | (rw [i64_w]) | (rw [Go.IntKind.wrap_i64]; rfl) | rfl), Below.refl _ _⟩
theorem cr4_s6 (hop : o.op = .load 26 (.tmp 7)) (hd : o.dst = some 30) (hg : o.guard = none) (f7 : 7 ∉ DS) (b7 : ∀ base, B base → base[7]? = some (.pointer (some ⟨g7, 0, none⟩))) (k7_0 : W.cell? ⟨g7, 0, none⟩ = some (.int .i64 d.f0)) (k7_1 : W.cell? ⟨g7, 1, none⟩ = some (.int .i64 d.f1)) : StepOK Try.prog ops W B DS PS o 30 (fun _ v => v = .agg #[.int .i64 d.f0, .int .i64 d.f1]) := by
 intro Q base ac w hB hbel hsz hn hfar
 obtain ⟨dst, op, ty, pos, after, guard⟩ := o
 simp only at hop hd hg
 subst hop hd hg
 refine ⟨rfl, ?_⟩
 have e7 := (hfar 7 f7).trans (b7 base hB)
 have ck7_0 := pw_cell_below hbel k7_0
 have ck7_1 := pw_cell_below hbel k7_1
 clear hn hfar b7
 go_simp
 exact ⟨_, rfl, (by first | with_reducible rfl | (rw [i64_w]) | (rw [Go.IntKind.wrap_i64]; rfl) | rfl), Below.refl _ _⟩
theorem cr4_s7 (hop : o.op = .call { callee := Go.Callee.value (.func 6), args := #[.tmp 28, .tmp 29, .tmp 30], argTypes := #[26, 26, 26] }) (hd : o.dst = some 31) (hg : o.guard = none) (n4 : 4 ∈ needsOf .any o) (d4 : DS[4]? = some 28) (p4 : PS[4]? = some (fun _ v => v = .agg #[.int .i64 a.f0, .int .i64 a.f1])) (n5 : 5 ∈ needsOf .any o) (d5 : DS[5]? = some 29) (p5 : PS[5]? = some (fun _ v => v = .agg #[.int .i64 b.f0, .int .i64 b.f1])) (n6 : 6 ∈ needsOf .any o) (d6 : DS[6]? = some 30) (p6 : PS[6]? = some (fun _ v => v = .agg #[.int .i64 d.f0, .int .i64 d.f1])) : StepOK Try.prog ops W B DS PS o 31 (fun _ v => v = .int .i64 (turnP a b d)) := by
 intro Q base ac w hB hbel hsz hn hfar
 obtain ⟨dst, op, ty, pos, after, guard⟩ := o
 simp only at hop hd hg
 subst hop hd hg
 refine ⟨rfl, ?_⟩
 obtain ⟨v4, e4, rfl⟩ := hn 4 n4 _ _ d4 p4
 obtain ⟨v5, e5, rfl⟩ := hn 5 n5 _ _ d5 p5
 obtain ⟨v6, e6, rfl⟩ := hn 6 n6 _ _ d6 p6
 clear hn hfar
 go_simp
 go_at_call 6
 refine (turn_calls a b d _).mono ?_
 rintro e w2 ⟨rfl, hb2⟩
 exact ⟨_, rfl, rfl, hb2⟩
theorem cr4_s8 (hop : o.op = .binOp Go.BinOp.mul 3 (.tmp 27) (.tmp 31) 3) (hd : o.dst = some 32) (hg : o.guard = none) (n3 : 3 ∈ needsOf .any o) (d3 : DS[3]? = some 27) (p3 : PS[3]? = some (fun _ v => v = .int .i64 (turnP a b c))) (n7 : 7 ∈ needsOf .any o) (d7 : DS[7]? = some 31) (p7 : PS[7]? = some (fun _ v => v = .int .i64 (turnP a b d))) : StepOK Try.prog ops W B DS PS o 32 (fun _ v => v = .int .i64 (wrap64 (turnP a b c * turnP a b d))) := by
 intro Q base ac w hB hbel hsz hn hfar
 obtain ⟨dst, op, ty, pos, after, guard⟩ := o
 simp only at hop hd hg
 subst hop hd hg
 refine ⟨rfl, ?_⟩
 obtain ⟨v3, e3, rfl⟩ := hn 3 n3 _ _ d3 p3
 obtain ⟨v7, e7, rfl⟩ := hn 7 n7 _ _ d7 p7
 clear hn hfar
 go_simp
 exact ⟨_, rfl, (by first | with_reducible rfl | (rw [i64_w]) | (rw [Go.IntKind.wrap_i64]; rfl) | rfl), Below.refl _ _⟩
theorem cr4_s9 (hop : o.op = .binOp Go.BinOp.lss 3 (.tmp 32) (.const (.int .i64 0)) 3) (hd : o.dst = some 33) (hg : o.guard = none) (n8 : 8 ∈ needsOf .any o) (d8 : DS[8]? = some 32) (p8 : PS[8]? = some (fun _ v => v = .int .i64 (wrap64 (turnP a b c * turnP a b d)))) (eq1 : q1 = decide (wrap64 (turnP a b c * turnP a b d) < 0)) : StepOK Try.prog ops W B DS PS o 33 (fun _ v => v = .bool q1) := by
 intro Q base ac w hB hbel hsz hn hfar
 obtain ⟨dst, op, ty, pos, after, guard⟩ := o
 simp only at hop hd hg
 subst hop hd hg
 refine ⟨rfl, ?_⟩
 obtain ⟨v8, e8, rfl⟩ := hn 8 n8 _ _ d8 p8
 clear hn hfar
 subst eq1
 go_simp
 exact ⟨_, rfl, (by first | with_reducible rfl | (rw [i64_w]) | (rw [Go.IntKind.wrap_i64]; rfl) | rfl), Below.refl _ _⟩
theorem cr4_s10 (hop : o.op = .move (.tmp 33)) (hd : o.dst = some 34) (hg : o.guard = none) (n9 : 9 ∈ needsOf .any o) (d9 : DS[9]? = some 33) (p9 : PS[9]? = some (fun _ v => v = .bool q1)) : StepOK Try.prog ops W B DS PS o 34 (fun _ v => v = .bool q1) := by
 intro Q base ac w hB hbel hsz hn hfar
 obtain ⟨dst, op, ty, pos, after, guard⟩ := o
 simp only at hop hd hg
 subst hop hd hg
 refine ⟨rfl, ?_⟩
 obtain ⟨v9, e9, rfl⟩ := hn 9 n9 _ _ d9 p9
 clear hn hfar
 go_simp
 exact ⟨_, rfl, (by first | with_reducible rfl | (rw [i64_w]) | (rw [Go.IntKind.wrap_i64]; rfl) | rfl), Below.refl _ _⟩
end
section
variable {a b c d : S26} {g4 g5 g6 g7 g9 g10 : Nat} {q1 q2 h1 h2 h3 h4 : Bool} {W : World} {u : Bool} {B : Array Value → Prop} {DS : List Nat} {PS : List (World → Value → Prop)} {ops : Array Oper} {o : Oper}
theorem cr4_s11 (hop : o.op = .load 26 (.tmp 6)) (hd : o.dst = some 35) (hg : o.guard = some (10, true)) (n10 : 10 ∈ needsOf .any o) (d10 : DS[10]? = some 34) (p10 : PS[10]? = some (fun _ v => v = .bool u)) (hw : ∃ og, ops[10]? = some og ∧ og.dst = some 34) (f6 : 6 ∉ DS) (b6 : ∀ base, B base → base[6]? = some (.pointer (some ⟨g6, 0, none⟩))) (k6_0 : W.cell? ⟨g6, 0, none⟩ = some (.int .i64 c.f0)) (k6_1 : W.cell? ⟨g6, 1, none⟩ = some (.int .i64 c.f1)) : StepOK Try.prog ops W B DS PS o 35 (fun _ v => v = (if u = true then .agg #[.int .i64 c.f0, .int .i64 c.f1] else undef)) := by
 intro Q base ac w hB hbel hsz hn hfar
 obtain ⟨dst, op, ty, pos, after, guard⟩ := o
 simp only at hop hd hg
 subst hop hd hg
 refine ⟨rfl, ?_⟩
 have e6 := (hfar 6 f6).trans (b6 base hB)
 obtain ⟨v10, e10, rfl⟩ := hn 10 n10 _ _ d10 p10
 have ck6_0 := pw_cell_below hbel k6_0
 have ck6_1 := pw_cell_below hbel k6_1
 clear hn hfar b6
 obtain ⟨og, hog, hod⟩ := hw
 cases u
 ·rw [if_neg (by rw [want_off rfl hog hod e10 (by decide)]; decide)]
  rfl
 ·rw [if_pos (want_on rfl hog hod e10)]
  try simp only [Bool.false_eq_true, Bool.true_eq_false, reduceIte] at e10
  go_simp
  exact ⟨_, rfl, (by first | with_reducible rfl | (rw [i64_w]) | (rw [Go.IntKind.wrap_i64]; rfl) | rfl), Below.refl _ _⟩
theorem cr4_s12 (hop : o.op = .load 26 (.tmp 7)) (hd : o.dst = some 36) (hg : o.guard = some (10, true)) (n10 : 10 ∈ needsOf .any o) (d10 : DS[10]? = some 34) (p10 : PS[10]? = some (fun _ v => v = .bool u)) (hw : ∃ og, ops[10]? = some og ∧ og.dst = some 34) (f7 : 7 ∉ DS) (b7 : ∀ base, B base → base[7]? = some (.pointer (some ⟨g7, 0, none⟩))) (k7_0 : W.cell? ⟨g7, 0, none⟩ = some (.int .i64 d.f0)) (k7_1 : W.cell? ⟨g7, 1, none⟩ = some (.int .i64 d.f1)) : StepOK Try.prog ops W B DS PS o 36 (fun _ v => v = (if u = true then .agg #[.int .i64 d.f0, .int .i64 d.f1] else undef)) := by
 intro Q base ac w hB hbel hsz hn hfar
 obtain ⟨dst, op, ty, pos, after, guard⟩ := o
 simp only at hop hd hg
 subst hop hd hg
 refine ⟨rfl, ?_⟩
 have e7 := (hfar 7 f7).trans (b7 base hB)
 obtain ⟨v10, e10, rfl⟩ := hn 10 n10 _ _ d10 p10
 have ck7_0 := pw_cell_below hbel k7_0
 have ck7_1 := pw_cell_below hbel k7_1
 clear hn hfar b7
 obtain ⟨og, hog, hod⟩ := hw
 cases u
 ·rw [if_neg (by rw [want_off rfl hog hod e10 (by decide)]; decide)]
  rfl
 ·rw [if_pos (want_on rfl hog hod e10)]
  try simp only [Bool.false_eq_true, Bool.true_eq_false, reduceIte] at e10
  go_simp
  exact ⟨_, rfl, (by first | with_reducible rfl | (rw [i64_w]) | (rw [Go.IntKind.wrap_i64]; rfl) | rfl), Below.refl _ _⟩
theorem cr4_s13 (hop : o.op = .load 26 (.tmp 4)) (hd : o.dst = some 37) (hg : o.guard = some (10, true)) (n10 : 10 ∈ needsOf .any o) (d10 : DS[10]? = some 34) (p10 : PS[10]? = some (fun _ v => v = .bool u)) (hw : ∃ og, ops[10]? = some og ∧ og.dst = some 34) (f4 : 4 ∉ DS) (b4 : ∀ base, B base → base[4]? = some (.pointer (some ⟨g4, 0, none⟩))) (k4_0 : W.cell? ⟨g4, 0, none⟩ = some (.int .i64 a.f0)) (k4_1 : W.cell? ⟨g4, 1, none⟩ = some (.int .i64 a.f1)) : StepOK Try.prog ops W B DS PS o 37 (fun _ v => v = (if u = true then .agg #[.int .i64 a.f0, .int .i64 a.f1] else undef)) := by
 intro Q base ac w hB hbel hsz hn hfar
 obtain ⟨dst, op, ty, pos, after, guard⟩ := o
 simp only at hop hd hg
 subst hop hd hg
 refine ⟨rfl, ?_⟩
 have e4 := (hfar 4 f4).trans (b4 base hB)
 obtain ⟨v10, e10, rfl⟩ := hn 10 n10 _ _ d10 p10
 have ck4_0 := pw_cell_below hbel k4_0
 have ck4_1 := pw_cell_below hbel k4_1
 clear hn hfar b4
 obtain ⟨og, hog, hod⟩ := hw
 cases u
 ·rw [if_neg (by rw [want_off rfl hog hod e10 (by decide)]; decide)]
  rfl
 ·rw [if_pos (want_on rfl hog hod e10)]
  try simp only [Bool.false_eq_true, Bool.true_eq_false, reduceIte] at e10
  go_simp
  exact ⟨_, rfl, (by first | with_reducible rfl | (rw [i64_w]) | (rw [Go.IntKind.wrap_i64]; rfl) | rfl), Below.refl _ _⟩
theorem cr4_s14 (hop : o.op = .call { callee := Go.Callee.value (.func 6), args := #[.tmp 35, .tmp 36, .tmp 37], argTypes := #[26, 26, 26] }) (hd : o.dst = some 38) (hg : o.guard = some (10, true)) (n11 : 11 ∈ needsOf .any o) (d11 : DS[11]? = some 35) (p11 : PS[11]? = some (fun _ v => v = (if u = true then .agg #[.int .i64 c.f0, .int .i64 c.f1] else undef))) (n12 : 12 ∈ needsOf .any o) (d12 : DS[12]? = some 36) (p12 : PS[12]? = some (fun _ v => v = (if u = true then .agg #[.int .i64 d.f0, .int .i64 d.f1] else undef))) (n13 : 13 ∈ needsOf .any o) (d13 : DS[13]? = some 37) (p13 : PS[13]? = some (fun _ v => v = (if u = true then .agg #[.int .i64 a.f0, .int .i64 a.f1] else undef))) (n10 : 10 ∈ needsOf .any o) (d10 : DS[10]? = some 34) (p10 : PS[10]? = some (fun _ v => v = .bool u)) (hw : ∃ og, ops[10]? = some og ∧ og.dst = some 34) : StepOK Try.prog ops W B DS PS o 38 (fun _ v => v = (if u = true then .int .i64 (turnP c d a) else undef)) := by
 intro Q base ac w hB hbel hsz hn hfar
 obtain ⟨dst, op, ty, pos, after, guard⟩ := o
 simp only at hop hd hg
 subst hop hd hg
 refine ⟨rfl, ?_⟩
 obtain ⟨v11, e11, rfl⟩ := hn 11 n11 _ _ d11 p11
 obtain ⟨v12, e12, rfl⟩ := hn 12 n12 _ _ d12 p12
 obtain ⟨v13, e13, rfl⟩ := hn 13 n13 _ _ d13 p13
 obtain ⟨v10, e10, rfl⟩ := hn 10 n10 _ _ d10 p10
 clear hn hfar
 obtain ⟨og, hog, hod⟩ := hw
 cases u
 ·rw [if_neg (by rw [want_off rfl hog hod e10 (by decide)]; decide)]
  rfl
 ·rw [if_pos (want_on rfl hog hod e10)]
  try simp only [Bool.false_eq_true, Bool.true_eq_false, reduceIte] at e11 e12 e13 e10
  go_simp
  go_at_call 6
  refine (turn_calls c d a _).mono ?_
  rintro e w2 ⟨rfl, hb2⟩
  exact ⟨_, rfl, rfl, hb2⟩
theorem cr4_s15 (hop : o.op = .load 26 (.tmp 6)) (hd : o.dst = some 39) (hg : o.guard = some (10, true)) (n10 : 10 ∈ needsOf .any o) (d10 : DS[10]? = some 34) (p10 : PS[10]? = some (fun _ v => v = .bool u)) (hw : ∃ og, ops[10]? = some og ∧ og.dst = some 34) (f6 : 6 ∉ DS) (b6 : ∀ base, B base → base[6]? = some (.pointer (some ⟨g6, 0, none⟩))) (k6_0 : W.cell? ⟨g6, 0, none⟩ = some (.int .i64 c.f0)) (k6_1 : W.cell? ⟨g6, 1, none⟩ = some (.int .i64 c.f1)) : StepOK Try.prog ops W B DS PS o 39 (fun _ v => v = (if u = true then .agg #[.int .i64 c.f0, .int .i64 c.f1] else undef)) := by
 intro Q base ac w hB hbel hsz hn hfar
 obtain ⟨dst, op, ty, pos, after, guard⟩ := o
 simp only at hop hd hg
 subst hop hd hg
 refine ⟨rfl, ?_⟩
 have e6 := (hfar 6 f6).trans (b6 base hB)
 obtain ⟨v10, e10, rfl⟩ := hn 10 n10 _ _ d10 p10
 have ck6_0 := pw_cell_below hbel k6_0
 have ck6_1 := pw_cell_below hbel k6_1
 clear hn hfar b6
 obtain ⟨og, hog, hod⟩ := hw
 cases u
 ·rw [if_neg (by rw [want_off rfl hog hod e10 (by decide)]; decide)]
  rfl
 ·rw [if_pos (want_on rfl hog hod e10)]
  try simp only [Bool.false_eq_true, Bool.true_eq_false, reduceIte] at e10
  go_simp
  exact ⟨_, rfl, (by first | with_reducible rfl | (rw [i64_w]) | (rw [Go.IntKind.wrap_i64]; rfl) | rfl), Below.refl _ _⟩
theorem cr4_s16 (hop : o.op = .load 26 (.tmp 7)) (hd : o.dst = some 40) (hg : o.guard = some (10, true)) (n10 : 10 ∈ needsOf .any o) (d10 : DS[10]? = some 34) (p10 : PS[10]? = some (fun _ v => v = .bool u)) (hw : ∃ og, ops[10]? = some og ∧ og.dst = some 34) (f7 : 7 ∉ DS) (b7 : ∀ base, B base → base[7]? = some (.pointer (some ⟨g7, 0, none⟩))) (k7_0 : W.cell? ⟨g7, 0, none⟩ = some (.int .i64 d.f0)) (k7_1 : W.cell? ⟨g7, 1, none⟩ = some (.int .i64 d.f1)) : StepOK Try.prog ops W B DS PS o 40 (fun _ v => v = (if u = true then .agg #[.int .i64 d.f0, .int .i64 d.f1] else undef)) := by
 intro Q base ac w hB hbel hsz hn hfar
 obtain ⟨dst, op, ty, pos, after, guard⟩ := o
 simp only at hop hd hg
 subst hop hd hg
 refine ⟨rfl, ?_⟩
 have e7 := (hfar 7 f7).trans (b7 base hB)
 obtain ⟨v10, e10, rfl⟩ := hn 10 n10 _ _ d10 p10
 have ck7_0 := pw_cell_below hbel k7_0
 have ck7_1 := pw_cell_below hbel k7_1
 clear hn hfar b7
 obtain ⟨og, hog, hod⟩ := hw
 cases u
 ·rw [if_neg (by rw [want_off rfl hog hod e10 (by decide)]; decide)]
  rfl
 ·rw [if_pos (want_on rfl hog hod e10)]
  try simp only [Bool.false_eq_true, Bool.true_eq_false, reduceIte] at e10
  go_simp
  exact ⟨_, rfl, (by first | with_reducible rfl | (rw [i64_w]) | (rw [Go.IntKind.wrap_i64]; rfl) | rfl), Below.refl _ _⟩
theorem cr4_s17 (hop : o.op = .load 26 (.tmp 5)) (hd : o.dst = some 41) (hg : o.guard = some (10, true)) (n10 : 10 ∈ needsOf .any o) (d10 : DS[10]? = some 34) (p10 : PS[10]? = some (fun _ v => v = .bool u)) (hw : ∃ og, ops[10]? = some og ∧ og.dst = some 34) (f5 : 5 ∉ DS) (b5 : ∀ base, B base → base[5]? = some (.pointer (some ⟨g5, 0, none⟩))) (k5_0 : W.cell? ⟨g5, 0, none⟩ = some (.int .i64 b.f0)) (k5_1 : W.cell? ⟨g5, 1, none⟩ = some (.int .i64 b.f1)) : StepOK Try.prog ops W B DS PS o 41 (fun _ v => v = (if u = true then .agg #[.int .i64 b.f0, .int .i64 b.f1] else undef)) := by
 intro Q base ac w hB hbel hsz hn hfar
 obtain ⟨dst, op, ty, pos, after, guard⟩ := o
 simp only at hop hd hg
 subst hop hd hg
 refine ⟨rfl, ?_⟩
 have e5 := (hfar 5 f5).trans (b5 base hB)
 obtain ⟨v10, e10, rfl⟩ := hn 10 n10 _ _ d10 p10
 have ck5_0 := pw_cell_below hbel k5_0
 have ck5_1 := pw_cell_below hbel k5_1
 clear hn hfar b5
 obtain ⟨og, hog, hod⟩ := hw
 cases u
 ·rw [if_neg (by rw [want_off rfl hog hod e10 (by decide)]; decide)]
  rfl
 ·rw [if_pos (want_on rfl hog hod e10)]
  try simp only [Bool.false_eq_true, Bool.true_eq_false, reduceIte] at e10
  go_simp
  exact ⟨_, rfl, (by first | with_reducible rfl | (rw [i64_w]) | (rw [Go.IntKind.wrap_i64]; rfl) | rfl), Below.refl _ _⟩
theorem cr4_s18 (hop : o.op = .call { callee := Go.Callee.value (.func 6), args := #[.tmp 39, .tmp 40, .tmp 41], argTypes := #[26, 26, 26] }) (hd : o.dst = some 42) (hg : o.guard = some (10, true)) (n15 : 15 ∈ needsOf .any o) (d15 : DS[15]? = some 39) (p15 : PS[15]? = some (fun _ v => v = (if u = true then .agg #[.int .i64 c.f0, .int .i64 c.f1] else undef))) (n16 : 16 ∈ needsOf .any o) (d16 : DS[16]? = some 40) (p16 : PS[16]? = some (fun _ v => v = (if u = true then .agg #[.int .i64 d.f0, .int .i64 d.f1] else undef))) (n17 : 17 ∈ needsOf .any o) (d17 : DS[17]? = some 41) (p17 : PS[17]? = some (fun _ v => v = (if u = true then .agg #[.int .i64 b.f0, .int .i64 b.f1] else undef))) (n10 : 10 ∈ needsOf .any o) (d10 : DS[10]? = some 34) (p10 : PS[10]? = some (fun _ v => v = .bool u)) (hw : ∃ og, ops[10]? = some og ∧ og.dst = some 34) : StepOK Try.prog ops W B DS PS o 42 (fun _ v => v = (if u = true then .int .i64 (turnP c d b) else undef)) := by
 intro Q base ac w hB hbel hsz hn hfar
 obtain ⟨dst, op, ty, pos, after, guard⟩ := o
 simp only at hop hd hg
 subst hop hd hg
 refine ⟨rfl, ?_⟩
 obtain ⟨v15, e15, rfl⟩ := hn 15 n15 _ _ d15 p15
 obtain ⟨v16, e16, rfl⟩ := hn 16 n16 _ _ d16 p16
 obtain ⟨v17, e17, rfl⟩ := hn 17 n17 _ _ d17 p17
 obtain ⟨v10, e10, rfl⟩ := hn 10 n10 _ _ d10 p10
 clear hn hfar
 obtain ⟨og, hog, hod⟩ := hw
 cases u
 ·rw [if_neg (by rw [want_off rfl hog hod e10 (by decide)]; decide)]
  rfl
 ·rw [if_pos (want_on rfl hog hod e10)]
  try simp only [Bool.false_eq_true, Bool.true_eq_false, reduceIte] at e15 e16 e17 e10
  go_simp
  go_at_call 6
  refine (turn_calls c d b _).mono ?_
  rintro e w2 ⟨rfl, hb2⟩
  exact ⟨_, rfl, rfl, hb2⟩
theorem cr4_s19 (hop : o.op = .binOp Go.BinOp.mul 3 (.tmp 38) (.tmp 42) 3) (hd : o.dst = some 43) (hg : o.guard = some (10, true)) (n14 : 14 ∈ needsOf .any o) (d14 : DS[14]? = some 38) (p14 : PS[14]? = some (fun _ v => v = (if u = true then .int .i64 (turnP c d a) else undef))) (n18 : 18 ∈ needsOf .any o) (d18 : DS[18]? = some 42) (p18 : PS[18]? = some (fun _ v => v = (if u = true then .int .i64 (turnP c d b) else undef))) (n10 : 10 ∈ needsOf .any o) (d10 : DS[10]? = some 34) (p10 : PS[10]? = some (fun _ v => v = .bool u)) (hw : ∃ og, ops[10]? = some og ∧ og.dst = some 34) : StepOK Try.prog ops W B DS PS o 43 (fun _ v => v = (if u = true then .int .i64 (wrap64 (turnP c d a * turnP c d b)) else undef)) := by
 intro Q base ac w hB hbel hsz hn hfar
 obtain ⟨dst, op, ty, pos, after, guard⟩ := o
 simp only at hop hd hg
 subst hop hd hg
 refine ⟨rfl, ?_⟩
 obtain ⟨v14, e14, rfl⟩ := hn 14 n14 _ _ d14 p14
 obtain ⟨v18, e18, rfl⟩ := hn 18 n18 _ _ d18 p18
 obtain ⟨v10, e10, rfl⟩ := hn 10 n10 _ _ d10 p10
 clear hn hfar
 obtain ⟨og, hog, hod⟩ := hw
 cases u
 ·rw [if_neg (by rw [want_off rfl hog hod e10 (by decide)]; decide)]
  rfl
 ·rw [if_pos (want_on rfl hog hod e10)]
  try simp only [Bool.false_eq_true, Bool.true_eq_false, reduceIte] at e14 e18 e10
  go_simp
  exact ⟨_, rfl, (by first | with_reducible rfl | (rw [i64_w]) | (rw [Go.IntKind.wrap_i64]; rfl) | rfl), Below.refl _ _⟩
theorem cr4_s20 (hop : o.op = .binOp Go.BinOp.lss 3 (.tmp 43) (.const (.int .i64 0)) 3) (hd : o.dst = some 44) (hg : o.guard = some (10, true)) (n19 : 19 ∈ needsOf .any o) (d19 : DS[19]? = some 43) (p19 : PS[19]? = some (fun _ v => v = (if u = true then .int .i64 (wrap64 (turnP c d a * turnP c d b)) else undef))) (n10 : 10 ∈ needsOf .any o) (d10 : DS[10]? = some 34) (p10 : PS[10]? = some (fun _ v => v = .bool u)) (hw : ∃ og, ops[10]? = some og ∧ og.dst = some 34) (eq2 : q2 = decide (wrap64 (turnP c d a * turnP c d b) < 0)) : StepOK Try.prog ops W B DS PS o 44 (fun _ v => v = (if u = true then .bool q2 else undef)) := by
 intro Q base ac w hB hbel hsz hn hfar
 obtain ⟨dst, op, ty, pos, after, guard⟩ := o
 simp only at hop hd hg
 subst hop hd hg
 refine ⟨rfl, ?_⟩
 obtain ⟨v19, e19, rfl⟩ := hn 19 n19 _ _ d19 p19
 obtain ⟨v10, e10, rfl⟩ := hn 10 n10 _ _ d10 p10
 clear hn hfar
 subst eq2
 obtain ⟨og, hog, hod⟩ := hw
 cases u
 ·rw [if_neg (by rw [want_off rfl hog hod e10 (by decide)]; decide)]
  rfl
 ·rw [if_pos (want_on rfl hog hod e10)]
  try simp only [Bool.false_eq_true, Bool.true_eq_false, reduceIte] at e19 e10
  go_simp
  exact ⟨_, rfl, (by first | with_reducible rfl | (rw [i64_w]) | (rw [Go.IntKind.wrap_i64]; rfl) | rfl), Below.refl _ _⟩
theorem cr4_s21 (hop : o.op = .pick (.tmp 34) (.tmp 44) (.const (.bool false))) (hd : o.dst = some 45) (hg : o.guard = none) (n10 : 10 ∈ needsOf .any o) (d10 : DS[10]? = some 34) (p10 : PS[10]? = some (fun _ v => v = .bool u)) (n20 : 20 ∈ needsOf .any o) (d20 : DS[20]? = some 44) (p20 : PS[20]? = some (fun _ v => v = (if u = true then .bool q2 else undef))) : StepOK Try.prog ops W B DS PS o 45 (fun _ v => v = .bool (u && q2)) := by
 intro Q base ac w hB hbel hsz hn hfar
 obtain ⟨dst, op, ty, pos, after, guard⟩ := o
 simp only at hop hd hg
 subst hop hd hg
 refine ⟨rfl, ?_⟩
 obtain ⟨v10, e10, rfl⟩ := hn 10 n10 _ _ d10 p10
 obtain ⟨v20, e20, rfl⟩ := hn 20 n20 _ _ d20 p20
 clear hn hfar
 cases u
 ·try simp only [Bool.false_eq_true, Bool.true_eq_false, reduceIte] at e10 e20
  go_simp
  exact ⟨_, rfl, (by first | with_reducible rfl | (rw [i64_w]) | (rw [Go.IntKind.wrap_i64]; rfl) | rfl), Below.refl _ _⟩
 ·try simp only [Bool.false_eq_true, Bool.true_eq_false, reduceIte] at e10 e20
  go_simp
  exact ⟨_, rfl, (by first | with_reducible rfl | (rw [i64_w]) | (rw [Go.IntKind.wrap_i64]; rfl) | rfl), Below.refl _ _⟩
end
section
variable {a b c d : S26} {g4 g5 g6 g7 g9 g10 : Nat} {q1 q2 h1 h2 h3 h4 : Bool} {W : World} {B : Array Value → Prop} {DS : List Nat} {PS : List (World → Value → Prop)} {ops : Array Oper} {o : Oper}
theorem cr4_s22 (hop : o.op = .move (.tmp 45)) (hd : o.dst = some 46) (hg : o.guard = none) (n21 : 21 ∈ needsOf .any o) (d21 : DS[21]? = some 45) (p21 : PS[21]? = some (fun _ v => v = .bool (q1 && q2))) : StepOK Try.prog ops W B DS PS o 46 (fun _ v => v = .bool (q1 && q2)) := by
 intro Q base ac w hB hbel hsz hn hfar
 obtain ⟨dst, op, ty, pos, after, guard⟩ := o
 simp only at hop hd hg
 subst hop hd hg
 refine ⟨rfl, ?_⟩
 obtain ⟨v21, e21, rfl⟩ := hn 21 n21 _ _ d21 p21
 clear hn hfar
 go_simp
 exact ⟨_, rfl, (by first | with_reducible rfl | (rw [i64_w]) | (rw [Go.IntKind.wrap_i64]; rfl) | rfl), Below.refl _ _⟩
end
section
variable {a b c d : S26} {g4 g5 g6 g7 g9 g10 : Nat} {q1 q2 h1 h2 h3 h4 : Bool} {W : World} {u : Bool} {B : Array Value → Prop} {DS : List Nat} {PS : List (World → Value → Prop)} {ops : Array Oper} {o : Oper}
theorem cr4_s23 (hop : o.op = .load 53 (.tmp 9)) (hd : o.dst = some 47) (hg : o.guard = some (22, false)) (n22 : 22 ∈ needsOf .any o) (d22 : DS[22]? = some 46) (p22 : PS[22]? = some (fun _ v => v = .bool u)) (hw : ∃ og, ops[22]? = some og ∧ og.dst = some 46) (f9 : 9 ∉ DS) (b9 : ∀ base, B base → base[9]? = some (.pointer (some ⟨g9, 0, none⟩))) (k9_0 : W.cell? ⟨g9, 0, none⟩ = some (.int .i64 a.f0)) (k9_1 : W.cell? ⟨g9, 1, none⟩ = some (.int .i64 a.f1)) (k9_2 : W.cell? ⟨g9, 2, none⟩ = some (.int .i64 b.f0)) (k9_3 : W.cell? ⟨g9, 3, none⟩ = some (.int .i64 b.f1)) : StepOK Try.prog ops W B DS PS o 47 (fun _ v => v = (if u = false then .agg #[.int .i64 a.f0, .int .i64 a.f1, .int .i64 b.f0, .int .i64 b.f1] else undef)) := by
 intro Q base ac w hB hbel hsz hn hfar
 obtain ⟨dst, op, ty, pos, after, guard⟩ := o
 simp only at hop hd hg
 subst hop hd hg
 refine ⟨rfl, ?_⟩
 have e9 := (hfar 9 f9).trans (b9 base hB)
 obtain ⟨v22, e22, rfl⟩ := hn 22 n22 _ _ d22 p22
 have ck9_0 := pw_cell_below hbel k9_0
 have ck9_1 := pw_cell_below hbel k9_1
 have ck9_2 := pw_cell_below hbel k9_2
 have ck9_3 := pw_cell_below hbel k9_3
 clear hn hfar b9
 obtain ⟨og, hog, hod⟩ := hw
 cases u
 ·rw [if_pos (want_on rfl hog hod e22)]
  try simp only [Bool.false_eq_true, Bool.true_eq_false, reduceIte] at e22
  go_simp
  exact ⟨_, rfl, (by first | with_reducible rfl | (rw [i64_w]) | (rw [Go.IntKind.wrap_i64]; rfl) | rfl), Below.refl _ _⟩
 ·rw [if_neg (by rw [want_off rfl hog hod e22 (by decide)]; decide)]
  rfl
theorem cr4_s24 (hop : o.op = .load 26 (.tmp 6)) (hd : o.dst = some 48) (hg : o.guard = some (22, false)) (n22 : 22 ∈ needsOf .any o) (d22 : DS[22]? = some 46) (p22 : PS[22]? = some (fun _ v => v = .bool u)) (hw : ∃ og, ops[22]? = some og ∧ og.dst = some 46) (f6 : 6 ∉ DS) (b6 : ∀ base, B base → base[6]? = some (.pointer (some ⟨g6, 0, none⟩))) (k6_0 : W.cell? ⟨g6, 0, none⟩ = some (.int .i64 c.f0)) (k6_1 : W.cell? ⟨g6, 1, none⟩ = some (.int .i64 c.f1)) : StepOK Try.prog ops W B DS PS o 48 (fun _ v => v = (if u = false then .agg #[.int .i64 c.f0, .int .i64 c.f1] else undef)) := by
 intro Q base ac w hB hbel hsz hn hfar
 obtain ⟨dst, op, ty, pos, after, guard⟩ := o
 simp only at hop hd hg
 subst hop hd hg
 refine ⟨rfl, ?_⟩
 have e6 := (hfar 6 f6).trans (b6 base hB)
 obtain ⟨v22, e22, rfl⟩ := hn 22 n22 _ _ d22 p22
 have ck6_0 := pw_cell_below hbel k6_0
 have ck6_1 := pw_cell_below hbel k6_1
 clear hn hfar b6
 obtain ⟨og, hog, hod⟩ := hw
 cases u
 ·rw [if_pos (want_on rfl hog hod e22)]
  try simp only [Bool.false_eq_true, Bool.true_eq_false, reduceIte] at e22
  go_simp
  exact ⟨_, rfl, (by first | with_reducible rfl | (rw [i64_w]) | (rw [Go.IntKind.wrap_i64]; rfl) | rfl), Below.refl _ _⟩
 ·rw [if_neg (by rw [want_off rfl hog hod e22 (by decide)]; decide)]
  rfl
theorem cr4_s25 (hop : o.op = .call { callee := Go.Callee.value (.func 21), args := #[.tmp 47, .tmp 48], argTypes := #[53, 26] }) (hd : o.dst = some 49) (hg : o.guard = some (22, false)) (n23 : 23 ∈ needsOf .any o) (d23 : DS[23]? = some 47) (p23 : PS[23]? = some (fun _ v => v = (if u = false then .agg #[.int .i64 a.f0, .int .i64 a.f1, .int .i64 b.f0, .int .i64 b.f1] else undef))) (n24 : 24 ∈ needsOf .any o) (d24 : DS[24]? = some 48) (p24 : PS[24]? = some (fun _ v => v = (if u = false then .agg #[.int .i64 c.f0, .int .i64 c.f1] else undef))) (n22 : 22 ∈ needsOf .any o) (d22 : DS[22]? = some 46) (p22 : PS[22]? = some (fun _ v => v = .bool u)) (hw : ∃ og, ops[22]? = some og ∧ og.dst = some 46) (eh1 : h1 = hasP a b c) : StepOK Try.prog ops W B DS PS o 49 (fun _ v => v = (if u = false then .bool h1 else undef)) := by
 intro Q base ac w hB hbel hsz hn hfar
 obtain ⟨dst, op, ty, pos, after, guard⟩ := o
 simp only at hop hd hg
 subst hop hd hg
 refine ⟨rfl, ?_⟩
 obtain ⟨v23, e23, rfl⟩ := hn 23 n23 _ _ d23 p23
 obtain ⟨v24, e24, rfl⟩ := hn 24 n24 _ _ d24 p24
 obtain ⟨v22, e22, rfl⟩ := hn 22 n22 _ _ d22 p22
 clear hn hfar
 obtain ⟨og, hog, hod⟩ := hw
 cases u
 ·rw [if_pos (want_on rfl hog hod e22)]
  try simp only [Bool.false_eq_true, Bool.true_eq_false, reduceIte] at e23 e24 e22
  go_simp
  go_at_call 21
  refine (has_calls a b c _).mono ?_
  rintro e w2 ⟨rfl, hb2⟩
  exact ⟨_, rfl, (by first | rfl | (rw [eh1])), hb2⟩
 ·rw [if_neg (by rw [want_off rfl hog hod e22 (by decide)]; decide)]
  rfl
theorem cr4_s26 (hop : o.op = .pick (.tmp 46) (.const (.bool true)) (.tmp 49)) (hd : o.dst = some 50) (hg : o.guard = none) (n22 : 22 ∈ needsOf .any o) (d22 : DS[22]? = some 46) (p22 : PS[22]? = some (fun _ v => v = .bool u)) (n25 : 25 ∈ needsOf .any o) (d25 : DS[25]? = some 49) (p25 : PS[25]? = some (fun _ v => v = (if u = false then .bool h1 else undef))) : StepOK Try.prog ops W B DS PS o 50 (fun _ v => v = .bool (u || h1)) := by
 intro Q base ac w hB hbel hsz hn hfar
 obtain ⟨dst, op, ty, pos, after, guard⟩ := o
 simp only at hop hd hg
 subst hop hd hg
 refine ⟨rfl, ?_⟩
 obtain ⟨v22, e22, rfl⟩ := hn 22 n22 _ _ d22 p22
 obtain ⟨v25, e25, rfl⟩ := hn 25 n25 _ _ d25 p25
 clear hn hfar
 cases u
 ·try simp only [Bool.false_eq_true, Bool.true_eq_false, reduceIte] at e22 e25
  go_simp
  exact ⟨_, rfl, (by first | with_reducible rfl | (rw [i64_w]) | (rw [Go.IntKind.wrap_i64]; rfl) | rfl), Below.refl _ _⟩
 ·try simp only [Bool.false_eq_true, Bool.true_eq_false, reduceIte] at e22 e25
  go_simp
  exact ⟨_, rfl, (by first | with_reducible rfl | (rw [i64_w]) | (rw [Go.IntKind.wrap_i64]; rfl) | rfl), Below.refl _ _⟩
end
section
variable {a b c d : S26} {g4 g5 g6 g7 g9 g10 : Nat} {q1 q2 h1 h2 h3 h4 : Bool} {W : World} {B : Array Value → Prop} {DS : List Nat} {PS : List (World → Value → Prop)} {ops : Array Oper} {o : Oper}
theorem cr4_s27 (hop : o.op = .move (.tmp 50)) (hd : o.dst = some 51) (hg : o.guard = none) (n26 : 26 ∈ needsOf .any o) (d26 : DS[26]? = some 50) (p26 : PS[26]? = some (fun _ v => v = .bool ((q1 && q2) || h1))) : StepOK Try.prog ops W B DS PS o 51 (fun _ v => v = .bool ((q1 && q2) || h1)) := by
 intro Q base ac w hB hbel hsz hn hfar
 obtain ⟨dst, op, ty, pos, after, guard⟩ := o
 simp only at hop hd hg
 subst hop hd hg
 refine ⟨rfl, ?_⟩
 obtain ⟨v26, e26, rfl⟩ := hn 26 n26 _ _ d26 p26
 clear hn hfar
 go_simp
 exact ⟨_, rfl, (by first | with_reducible rfl | (rw [i64_w]) | (rw [Go.IntKind.wrap_i64]; rfl) | rfl), Below.refl _ _⟩
end
section
variable {a b c d : S26} {g4 g5 g6 g7 g9 g10 : Nat} {q1 q2 h1 h2 h3 h4 : Bool} {W : World} {u : Bool} {B : Array Value → Prop} {DS : List Nat} {PS : List (World → Value → Prop)} {ops : Array Oper} {o : Oper}
theorem cr4_s28 (hop : o.op = .load 53 (.tmp 9)) (hd : o.dst = some 52) (hg : o.guard = some (27, false)) (n27 : 27 ∈ needsOf .any o) (d27 : DS[27]? = some 51) (p27 : PS[27]? = some (fun _ v => v = .bool u)) (hw : ∃ og, ops[27]? = some og ∧ og.dst = some 51) (f9 : 9 ∉ DS) (b9 : ∀ base, B base → base[9]? = some (.pointer (some ⟨g9, 0, none⟩))) (k9_0 : W.cell? ⟨g9, 0, none⟩ = some (.int .i64 a.f0)) (k9_1 : W.cell? ⟨g9, 1, none⟩ = some (.int .i64 a.f1)) (k9_2 : W.cell? ⟨g9, 2, none⟩ = some (.int .i64 b.f0)) (k9_3 : W.cell? ⟨g9, 3, none⟩ = some (.int .i64 b.f1)) : StepOK Try.prog ops W B DS PS o 52 (fun _ v => v = (if u = false then .agg #[.int .i64 a.f0, .int .i64 a.f1, .int .i64 b.f0, .int .i64 b.f1] else undef)) := by
 intro Q base ac w hB hbel hsz hn hfar
 obtain ⟨dst, op, ty, pos, after, guard⟩ := o
 simp only at hop hd hg
 subst hop hd hg
 refine ⟨rfl, ?_⟩
 have e9 := (hfar 9 f9).trans (b9 base hB)
 obtain ⟨v27, e27, rfl⟩ := hn 27 n27 _ _ d27 p27
 have ck9_0 := pw_cell_below hbel k9_0
 have ck9_1 := pw_cell_below hbel k9_1
 have ck9_2 := pw_cell_below hbel k9_2
 have ck9_3 := pw_cell_below hbel k9_3
 clear hn hfar b9
 obtain ⟨og, hog, hod⟩ := hw
 cases u
 ·rw [if_pos (want_on rfl hog hod e27)]
  try simp only [Bool.false_eq_true, Bool.true_eq_false, reduceIte] at e27
  go_simp
  exact ⟨_, rfl, (by first | with_reducible rfl | (rw [i64_w]) | (rw [Go.IntKind.wrap_i64]; rfl) | rfl), Below.refl _ _⟩
 ·rw [if_neg (by rw [want_off rfl hog hod e27 (by decide)]; decide)]
  rfl
theorem cr4_s29 (hop : o.op = .load 26 (.tmp 7)) (hd : o.dst = some 53) (hg : o.guard = some (27, false)) (n27 : 27 ∈ needsOf .any o) (d27 : DS[27]? = some 51) (p27 : PS[27]? = some (fun _ v => v = .bool u)) (hw : ∃ og, ops[27]? = some og ∧ og.dst = some 51) (f7 : 7 ∉ DS) (b7 : ∀ base, B base → base[7]? = some (.pointer (some ⟨g7, 0, none⟩))) (k7_0 : W.cell? ⟨g7, 0, none⟩ = some (.int .i64 d.f0)) (k7_1 : W.cell? ⟨g7, 1, none⟩ = some (.int .i64 d.f1)) : StepOK Try.prog ops W B DS PS o 53 (fun _ v => v = (if u = false then .agg #[.int .i64 d.f0, .int .i64 d.f1] else undef)) := by
 intro Q base ac w hB hbel hsz hn hfar
 obtain ⟨dst, op, ty, pos, after, guard⟩ := o
 simp only at hop hd hg
 subst hop hd hg
 refine ⟨rfl, ?_⟩
 have e7 := (hfar 7 f7).trans (b7 base hB)
 obtain ⟨v27, e27, rfl⟩ := hn 27 n27 _ _ d27 p27
 have ck7_0 := pw_cell_below hbel k7_0
 have ck7_1 := pw_cell_below hbel k7_1
 clear hn hfar b7
 obtain ⟨og, hog, hod⟩ := hw
 cases u
 ·rw [if_pos (want_on rfl hog hod e27)]
  try simp only [Bool.false_eq_true, Bool.true_eq_false, reduceIte] at e27
  go_simp
  exact ⟨_, rfl, (by first | with_reducible rfl | (rw [i64_w]) | (rw [Go.IntKind.wrap_i64]; rfl) | rfl), Below.refl _ _⟩
 ·rw [if_neg (by rw [want_off rfl hog hod e27 (by decide)]; decide)]
  rfl
theorem cr4_s30 (hop : o.op = .call { callee := Go.Callee.value (.func 21), args := #[.tmp 52, .tmp 53], argTypes := #[53, 26] }) (hd : o.dst = some 54) (hg : o.guard = some (27, false)) (n28 : 28 ∈ needsOf .any o) (d28 : DS[28]? = some 52) (p28 : PS[28]? = some (fun _ v => v = (if u = false then .agg #[.int .i64 a.f0, .int .i64 a.f1, .int .i64 b.f0, .int .i64 b.f1] else undef))) (n29 : 29 ∈ needsOf .any o) (d29 : DS[29]? = some 53) (p29 : PS[29]? = some (fun _ v => v = (if u = false then .agg #[.int .i64 d.f0, .int .i64 d.f1] else undef))) (n27 : 27 ∈ needsOf .any o) (d27 : DS[27]? = some 51) (p27 : PS[27]? = some (fun _ v => v = .bool u)) (hw : ∃ og, ops[27]? = some og ∧ og.dst = some 51) (eh2 : h2 = hasP a b d) : StepOK Try.prog ops W B DS PS o 54 (fun _ v => v = (if u = false then .bool h2 else undef)) := by
 intro Q base ac w hB hbel hsz hn hfar
 obtain ⟨dst, op, ty, pos, after, guard⟩ := o
 simp only at hop hd hg
 subst hop hd hg
 refine ⟨rfl, ?_⟩
 obtain ⟨v28, e28, rfl⟩ := hn 28 n28 _ _ d28 p28
 obtain ⟨v29, e29, rfl⟩ := hn 29 n29 _ _ d29 p29
 obtain ⟨v27, e27, rfl⟩ := hn 27 n27 _ _ d27 p27
 clear hn hfar
 obtain ⟨og, hog, hod⟩ := hw
 cases u
 ·rw [if_pos (want_on rfl hog hod e27)]
  try simp only [Bool.false_eq_true, Bool.true_eq_false, reduceIte] at e28 e29 e27
  go_simp
  go_at_call 21
  refine (has_calls a b d _).mono ?_
  rintro e w2 ⟨rfl, hb2⟩
  exact ⟨_, rfl, (by first | rfl | (rw [eh2])), hb2⟩
 ·rw [if_neg (by rw [want_off rfl hog hod e27 (by decide)]; decide)]
  rfl
theorem cr4_s31 (hop : o.op = .pick (.tmp 51) (.const (.bool true)) (.tmp 54)) (hd : o.dst = some 55) (hg : o.guard = none) (n27 : 27 ∈ needsOf .any o) (d27 : DS[27]? = some 51) (p27 : PS[27]? = some (fun _ v => v = .bool u)) (n30 : 30 ∈ needsOf .any o) (d30 : DS[30]? = some 54) (p30 : PS[30]? = some (fun _ v => v = (if u = false then .bool h2 else undef))) : StepOK Try.prog ops W B DS PS o 55 (fun _ v => v = .bool (u || h2)) := by
 intro Q base ac w hB hbel hsz hn hfar
 obtain ⟨dst, op, ty, pos, after, guard⟩ := o
 simp only at hop hd hg
 subst hop hd hg
 refine ⟨rfl, ?_⟩
 obtain ⟨v27, e27, rfl⟩ := hn 27 n27 _ _ d27 p27
 obtain ⟨v30, e30, rfl⟩ := hn 30 n30 _ _ d30 p30
 clear hn hfar
 cases u
 ·try simp only [Bool.false_eq_true, Bool.true_eq_false, reduceIte] at e27 e30
  go_simp
  exact ⟨_, rfl, (by first | with_reducible rfl | (rw [i64_w]) | (rw [Go.IntKind.wrap_i64]; rfl) | rfl), Below.refl _ _⟩
 ·try simp only [Bool.false_eq_true, Bool.true_eq_false, reduceIte] at e27 e30
  go_simp
  exact ⟨_, rfl, (by first | with_reducible rfl | (rw [i64_w]) | (rw [Go.IntKind.wrap_i64]; rfl) | rfl), Below.refl _ _⟩
end
section
variable {a b c d : S26} {g4 g5 g6 g7 g9 g10 : Nat} {q1 q2 h1 h2 h3 h4 : Bool} {W : World} {B : Array Value → Prop} {DS : List Nat} {PS : List (World → Value → Prop)} {ops : Array Oper} {o : Oper}
theorem cr4_s32 (hop : o.op = .move (.tmp 55)) (hd : o.dst = some 56) (hg : o.guard = none) (n31 : 31 ∈ needsOf .any o) (d31 : DS[31]? = some 55) (p31 : PS[31]? = some (fun _ v => v = .bool (((q1 && q2) || h1) || h2))) : StepOK Try.prog ops W B DS PS o 56 (fun _ v => v = .bool (((q1 && q2) || h1) || h2)) := by
 intro Q base ac w hB hbel hsz hn hfar
 obtain ⟨dst, op, ty, pos, after, guard⟩ := o
 simp only at hop hd hg
 subst hop hd hg
 refine ⟨rfl, ?_⟩
 obtain ⟨v31, e31, rfl⟩ := hn 31 n31 _ _ d31 p31
 clear hn hfar
 go_simp
 exact ⟨_, rfl, (by first | with_reducible rfl | (rw [i64_w]) | (rw [Go.IntKind.wrap_i64]; rfl) | rfl), Below.refl _ _⟩
end
section
variable {a b c d : S26} {g4 g5 g6 g7 g9 g10 : Nat} {q1 q2 h1 h2 h3 h4 : Bool} {W : World} {u : Bool} {B : Array Value → Prop} {DS : List Nat} {PS : List (World → Value → Prop)} {ops : Array Oper} {o : Oper}
theorem cr4_s33 (hop : o.op = .load 53 (.tmp 10)) (hd : o.dst = some 57) (hg : o.guard = some (32, false)) (n32 : 32 ∈ needsOf .any o) (d32 : DS[32]? = some 56) (p32 : PS[32]? = some (fun _ v => v = .bool u)) (hw : ∃ og, ops[32]? = some og ∧ og.dst = some 56) (f10 : 10 ∉ DS) (b10 : ∀ base, B base → base[10]? = some (.pointer (some ⟨g10, 0, none⟩))) (k10_0 : W.cell? ⟨g10, 0, none⟩ = some (.int .i64 c.f0)) (k10_1 : W.cell? ⟨g10, 1, none⟩ = some (.int .i64 c.f1)) (k10_2 : W.cell? ⟨g10, 2, none⟩ = some (.int .i64 d.f0)) (k10_3 : W.cell? ⟨g10, 3, none⟩ = some (.int .i64 d.f1)) : StepOK Try.prog ops W B DS PS o 57 (fun _ v => v = (if u = false then .agg #[.int .i64 c.f0, .int .i64 c.f1, .int .i64 d.f0, .int .i64 d.f1] else undef)) := by
 intro Q base ac w hB hbel hsz hn hfar
 obtain ⟨dst, op, ty, pos, after, guard⟩ := o
 simp only at hop hd hg
 subst hop hd hg
 refine ⟨rfl, ?_⟩
 have e10 := (hfar 10 f10).trans (b10 base hB)
 obtain ⟨v32, e32, rfl⟩ := hn 32 n32 _ _ d32 p32
 have ck10_0 := pw_cell_below hbel k10_0
 have ck10_1 := pw_cell_below hbel k10_1
 have ck10_2 := pw_cell_below hbel k10_2
 have ck10_3 := pw_cell_below hbel k10_3
 clear hn hfar b10
 obtain ⟨og, hog, hod⟩ := hw
 cases u
 ·rw [if_pos (want_on rfl hog hod e32)]
  try simp only [Bool.false_eq_true, Bool.true_eq_false, reduceIte] at e32
  go_simp
  exact ⟨_, rfl, (by first | with_reducible rfl | (rw [i64_w]) | (rw [Go.IntKind.wrap_i64]; rfl) | rfl), Below.refl _ _⟩
 ·rw [if_neg (by rw [want_off rfl hog hod e32 (by decide)]; decide)]
  rfl
theorem cr4_s34 (hop : o.op = .load 26 (.tmp 4)) (hd : o.dst = some 58) (hg : o.guard = some (32, false)) (n32 : 32 ∈ needsOf .any o) (d32 : DS[32]? = some 56) (p32 : PS[32]? = some (fun _ v => v = .bool u)) (hw : ∃ og, ops[32]? = some og ∧ og.dst = some 56) (f4 : 4 ∉ DS) (b4 : ∀ base, B base → base[4]? = some (.pointer (some ⟨g4, 0, none⟩))) (k4_0 : W.cell? ⟨g4, 0, none⟩ = some (.int .i64 a.f0)) (k4_1 : W.cell? ⟨g4, 1, none⟩ = some (.int .i64 a.f1)) : StepOK Try.prog ops W B DS PS o 58 (fun _ v => v = (if u = false then .agg #[.int .i64 a.f0, .int .i64 a.f1] else undef)) := by
 intro Q base ac w hB hbel hsz hn hfar
 obtain ⟨dst, op, ty, pos, after, guard⟩ := o
 simp only at hop hd hg
 subst hop hd hg
 refine ⟨rfl, ?_⟩
 have e4 := (hfar 4 f4).trans (b4 base hB)
 obtain ⟨v32, e32, rfl⟩ := hn 32 n32 _ _ d32 p32
 have ck4_0 := pw_cell_below hbel k4_0
 have ck4_1 := pw_cell_below hbel k4_1
 clear hn hfar b4
 obtain ⟨og, hog, hod⟩ := hw
 cases u
 ·rw [if_pos (want_on rfl hog hod e32)]
  try simp only [Bool.false_eq_true, Bool.true_eq_false, reduceIte] at e32
  go_simp
  exact ⟨_, rfl, (by first | with_reducible rfl | (rw [i64_w]) | (rw [Go.IntKind.wrap_i64]; rfl) | rfl), Below.refl _ _⟩
 ·rw [if_neg (by rw [want_off rfl hog hod e32 (by decide)]; decide)]
  rfl
theorem cr4_s35 (hop : o.op = .call { callee := Go.Callee.value (.func 21), args := #[.tmp 57, .tmp 58], argTypes := #[53, 26] }) (hd : o.dst = some 59) (hg : o.guard = some (32, false)) (n33 : 33 ∈ needsOf .any o) (d33 : DS[33]? = some 57) (p33 : PS[33]? = some (fun _ v => v = (if u = false then .agg #[.int .i64 c.f0, .int .i64 c.f1, .int .i64 d.f0, .int .i64 d.f1] else undef))) (n34 : 34 ∈ needsOf .any o) (d34 : DS[34]? = some 58) (p34 : PS[34]? = some (fun _ v => v = (if u = false then .agg #[.int .i64 a.f0, .int .i64 a.f1] else undef))) (n32 : 32 ∈ needsOf .any o) (d32 : DS[32]? = some 56) (p32 : PS[32]? = some (fun _ v => v = .bool u)) (hw : ∃ og, ops[32]? = some og ∧ og.dst = some 56) (eh3 : h3 = hasP c d a) : StepOK Try.prog ops W B DS PS o 59 (fun _ v => v = (if u = false then .bool h3 else undef)) := by
 intro Q base ac w hB hbel hsz hn hfar
 obtain ⟨dst, op, ty, pos, after, guard⟩ := o
 simp only at hop hd hg
 subst hop hd hg
 refine ⟨rfl, ?_⟩
 obtain ⟨v33, e33, rfl⟩ := hn 33 n33 _ _ d33 p33
 obtain ⟨v34, e34, rfl⟩ := hn 34 n34 _ _ d34 p34
 obtain ⟨v32, e32, rfl⟩ := hn 32 n32 _ _ d32 p32
 clear hn hfar
 obtain ⟨og, hog, hod⟩ := hw
 cases u
 ·rw [if_pos (want_on rfl hog hod e32)]
  try simp only [Bool.false_eq_true, Bool.true_eq_false, reduceIte] at e33 e34 e32
  go_simp
  go_at_call 21
  refine (has_calls c d a _).mono ?_
  rintro e w2 ⟨rfl, hb2⟩
  exact ⟨_, rfl, (by first | rfl | (rw [eh3])), hb2⟩
 ·rw [if_neg (by rw [want_off rfl hog hod e32 (by decide)]; decide)]
  rfl
theorem cr4_s36 (hop : o.op = .pick (.tmp 56) (.const (.bool true)) (.tmp 59)) (hd : o.dst = some 60) (hg : o.guard = none) (n32 : 32 ∈ needsOf .any o) (d32 : DS[32]? = some 56) (p32 : PS[32]? = some (fun _ v => v = .bool u)) (n35 : 35 ∈ needsOf .any o) (d35 : DS[35]? = some 59) (p35 : PS[35]? = some (fun _ v => v = (if u = false then .bool h3 else undef))) : StepOK Try.prog ops W B DS PS o 60 (fun _ v => v = .bool (u || h3)) := by
 intro Q base ac w hB hbel hsz hn hfar
 obtain ⟨dst, op, ty, pos, after, guard⟩ := o
 simp only at hop hd hg
 subst hop hd hg
 refine ⟨rfl, ?_⟩
 obtain ⟨v32, e32, rfl⟩ := hn 32 n32 _ _ d32 p32
 obtain ⟨v35, e35, rfl⟩ := hn 35 n35 _ _ d35 p35
 clear hn hfar
 cases u
 ·try simp only [Bool.false_eq_true, Bool.true_eq_false, reduceIte] at e32 e35
  go_simp
  exact ⟨_, rfl, (by first | with_reducible rfl | (rw [i64_w]) | (rw [Go.IntKind.wrap_i64]; rfl) | rfl), Below.refl _ _⟩
 ·try simp only [Bool.false_eq_true, Bool.true_eq_false, reduceIte] at e32 e35
  go_simp
  exact ⟨_, rfl, (by first | with_reducible rfl | (rw [i64_w]) | (rw [Go.IntKind.wrap_i64]; rfl) | rfl), Below.refl _ _⟩
end
section
variable {a b c d : S26} {g4 g5 g6 g7 g9 g10 : Nat} {q1 q2 h1 h2 h3 h4 : Bool} {W : World} {B : Array Value → Prop} {DS : List Nat} {PS : List (World → Value → Prop)} {ops : Array Oper} {o : Oper}
theorem cr4_s37 (hop : o.op = .move (.tmp 60)) (hd : o.dst = some 61) (hg : o.guard = none) (n36 : 36 ∈ needsOf .any o) (d36 : DS[36]? = some 60) (p36 : PS[36]? = some (fun _ v => v = .bool ((((q1 && q2) || h1) || h2) || h3))) : StepOK Try.prog ops W B DS PS o 61 (fun _ v => v = .bool ((((q1 && q2) || h1) || h2) || h3)) := by
 intro Q base ac w hB hbel hsz hn hfar
 obtain ⟨dst, op, ty, pos, after, guard⟩ := o
 simp only at hop hd hg
 subst hop hd hg
 refine ⟨rfl, ?_⟩
 obtain ⟨v36, e36, rfl⟩ := hn 36 n36 _ _ d36 p36
 clear hn hfar
 go_simp
 exact ⟨_, rfl, (by first | with_reducible rfl | (rw [i64_w]) | (rw [Go.IntKind.wrap_i64]; rfl) | rfl), Below.refl _ _⟩
end
section
variable {a b c d : S26} {g4 g5 g6 g7 g9 g10 : Nat} {q1 q2 h1 h2 h3 h4 : Bool} {W : World} {u : Bool} {B : Array Value → Prop} {DS : List Nat} {PS : List (World → Value → Prop)} {ops : Array Oper} {o : Oper}
theorem cr4_s38 (hop : o.op = .load 53 (.tmp 10)) (hd : o.dst = some 62) (hg : o.guard = some (37, false)) (n37 : 37 ∈ needsOf .any o) (d37 : DS[37]? = some 61) (p37 : PS[37]? = some (fun _ v => v = .bool u)) (hw : ∃ og, ops[37]? = some og ∧ og.dst = some 61) (f10 : 10 ∉ DS) (b10 : ∀ base, B base → base[10]? = some (.pointer (some ⟨g10, 0, none⟩))) (k10_0 : W.cell? ⟨g10, 0, none⟩ = some (.int .i64 c.f0)) (k10_1 : W.cell? ⟨g10, 1, none⟩ = some (.int .i64 c.f1)) (k10_2 : W.cell? ⟨g10, 2, none⟩ = some (.int .i64 d.f0)) (k10_3 : W.cell? ⟨g10, 3, none⟩ = some (.int .i64 d.f1)) : StepOK Try.prog ops W B DS PS o 62 (fun _ v => v = (if u = false then .agg #[.int .i64 c.f0, .int .i64 c.f1, .int .i64 d.f0, .int .i64 d.f1] else undef)) := by
 intro Q base ac w hB hbel hsz hn hfar
 obtain ⟨dst, op, ty, pos, after, guard⟩ := o
 simp only at hop hd hg
 subst hop hd hg
 refine ⟨rfl, ?_⟩
 have e10 := (hfar 10 f10).trans (b10 base hB)
 obtain ⟨v37, e37, rfl⟩ := hn 37 n37 _ _ d37 p37
 have ck10_0 := pw_cell_below hbel k10_0
 have ck10_1 := pw_cell_below hbel k10_1
 have ck10_2 := pw_cell_below hbel k10_2
 have ck10_3 := pw_cell_below hbel k10_3
 clear hn hfar b10
 obtain ⟨og, hog, hod⟩ := hw
 cases u
 ·rw [if_pos (want_on rfl hog hod e37)]
  try simp only [Bool.false_eq_true, Bool.true_eq_false, reduceIte] at e37
  go_simp
  exact ⟨_, rfl, (by first | with_reducible rfl | (rw [i64_w]) | (rw [Go.IntKind.wrap_i64]; rfl) | rfl), Below.refl _ _⟩
 ·rw [if_neg (by rw [want_off rfl hog hod e37 (by decide)]; decide)]
  rfl
theorem cr4_s39 (hop : o.op = .load 26 (.tmp 5)) (hd : o.dst = some 63) (hg : o.guard = some (37, false)) (n37 : 37 ∈ needsOf .any o) (d37 : DS[37]? = some 61) (p37 : PS[37]? = some (fun _ v => v = .bool u)) (hw : ∃ og, ops[37]? = some og ∧ og.dst = some 61) (f5 : 5 ∉ DS) (b5 : ∀ base, B base → base[5]? = some (.pointer (some ⟨g5, 0, none⟩))) (k5_0 : W.cell? ⟨g5, 0, none⟩ = some (.int .i64 b.f0)) (k5_1 : W.cell? ⟨g5, 1, none⟩ = some (.int .i64 b.f1)) : StepOK Try.prog ops W B DS PS o 63 (fun _ v => v = (if u = false then .agg #[.int .i64 b.f0, .int .i64 b.f1] else undef)) := by
 intro Q base ac w hB hbel hsz hn hfar
 obtain ⟨dst, op, ty, pos, after, guard⟩ := o
 simp only at hop hd hg
 subst hop hd hg
 refine ⟨rfl, ?_⟩
 have e5 := (hfar 5 f5).trans (b5 base hB)
 obtain ⟨v37, e37, rfl⟩ := hn 37 n37 _ _ d37 p37
 have ck5_0 := pw_cell_below hbel k5_0
 have ck5_1 := pw_cell_below hbel k5_1
 clear hn hfar b5
 obtain ⟨og, hog, hod⟩ := hw
 cases u
 ·rw [if_pos (want_on rfl hog hod e37)]
  try simp only [Bool.false_eq_true, Bool.true_eq_false, reduceIte] at e37
  go_simp
  exact ⟨_, rfl, (by first | with_reducible rfl | (rw [i64_w]) | (rw [Go.IntKind.wrap_i64]; rfl) | rfl), Below.refl _ _⟩
 ·rw [if_neg (by rw [want_off rfl hog hod e37 (by decide)]; decide)]
  rfl
theorem cr4_s40 (hop : o.op = .call { callee := Go.Callee.value (.func 21), args := #[.tmp 62, .tmp 63], argTypes := #[53, 26] }) (hd : o.dst = some 64) (hg : o.guard = some (37, false)) (n38 : 38 ∈ needsOf .any o) (d38 : DS[38]? = some 62) (p38 : PS[38]? = some (fun _ v => v = (if u = false then .agg #[.int .i64 c.f0, .int .i64 c.f1, .int .i64 d.f0, .int .i64 d.f1] else undef))) (n39 : 39 ∈ needsOf .any o) (d39 : DS[39]? = some 63) (p39 : PS[39]? = some (fun _ v => v = (if u = false then .agg #[.int .i64 b.f0, .int .i64 b.f1] else undef))) (n37 : 37 ∈ needsOf .any o) (d37 : DS[37]? = some 61) (p37 : PS[37]? = some (fun _ v => v = .bool u)) (hw : ∃ og, ops[37]? = some og ∧ og.dst = some 61) (eh4 : h4 = hasP c d b) : StepOK Try.prog ops W B DS PS o 64 (fun _ v => v = (if u = false then .bool h4 else undef)) := by
 intro Q base ac w hB hbel hsz hn hfar
 obtain ⟨dst, op, ty, pos, after, guard⟩ := o
 simp only at hop hd hg
 subst hop hd hg
 refine ⟨rfl, ?_⟩
 obtain ⟨v38, e38, rfl⟩ := hn 38 n38 _ _ d38 p38
 obtain ⟨v39, e39, rfl⟩ := hn 39 n39 _ _ d39 p39
 obtain ⟨v37, e37, rfl⟩ := hn 37 n37 _ _ d37 p37
 clear hn hfar
 obtain ⟨og, hog, hod⟩ := hw
 cases u
 ·rw [if_pos (want_on rfl hog hod e37)]
  try simp only [Bool.false_eq_true, Bool.true_eq_false, reduceIte] at e38 e39 e37
  go_simp
  go_at_call 21
  refine (has_calls c d b _).mono ?_
  rintro e w2 ⟨rfl, hb2⟩
  exact ⟨_, rfl, (by first | rfl | (rw [eh4])), hb2⟩
 ·rw [if_neg (by rw [want_off rfl hog hod e37 (by decide)]; decide)]
  rfl
theorem cr4_s41 (hop : o.op = .pick (.tmp 61) (.const (.bool true)) (.tmp 64)) (hd : o.dst = some 65) (hg : o.guard = none) (n37 : 37 ∈ needsOf .any o) (d37 : DS[37]? = some 61) (p37 : PS[37]? = some (fun _ v => v = .bool u)) (n40 : 40 ∈ needsOf .any o) (d40 : DS[40]? = some 64) (p40 : PS[40]? = some (fun _ v => v = (if u = false then .bool h4 else undef))) : StepOK Try.prog ops W B DS PS o 65 (fun _ v => v = .bool (u || h4)) := by
 intro Q base ac w hB hbel hsz hn hfar
 obtain ⟨dst, op, ty, pos, after, guard⟩ := o
 simp only at hop hd hg
 subst hop hd hg
 refine ⟨rfl, ?_⟩
 obtain ⟨v37, e37, rfl⟩ := hn 37 n37 _ _ d37 p37
 obtain ⟨v40, e40, rfl⟩ := hn 40 n40 _ _ d40 p40
 clear hn hfar
 cases u
 ·try simp only [Bool.false_eq_true, Bool.true_eq_false, reduceIte] at e37 e40
  go_simp
  exact ⟨_, rfl, (by first | with_reducible rfl | (rw [i64_w]) | (rw [Go.IntKind.wrap_i64]; rfl) | rfl), Below.refl _ _⟩
 ·try simp only [Bool.false_eq_true, Bool.true_eq_false, reduceIte] at e37 e40
  go_simp
  exact ⟨_, rfl, (by first | with_reducible rfl | (rw [i64_w]) | (rw [Go.IntKind.wrap_i64]; rfl) | rfl), Below.refl _ _⟩
end
section
variable {a b c d : S26} {g4 g5 g6 g7 g9 g10 : Nat} {q1 q2 h1 h2 h3 h4 : Bool} {W : World} {B : Array Value → Prop} {DS : List Nat} {PS : List (World → Value → Prop)} {ops : Array Oper} {o : Oper}
theorem cr4_s42 (hop : o.op = .assign (.tmp 65)) (hd : o.dst = some 8) (hg : o.guard = none) (n41 : 41 ∈ needsOf .any o) (d41 : DS[41]? = some 65) (p41 : PS[41]? = some (fun _ v => v = .bool (((((q1 && q2) || h1) || h2) || h3) || h4))) : StepOK Try.prog ops W B DS PS o 8 (fun _ v => v = .bool (((((q1 && q2) || h1) || h2) || h3) || h4)) := by
 intro Q base ac w hB hbel hsz hn hfar
 obtain ⟨dst, op, ty, pos, after, guard⟩ := o
 simp only at hop hd hg
 subst hop hd hg
 refine ⟨rfl, ?_⟩
 obtain ⟨v41, e41, rfl⟩ := hn 41 n41 _ _ d41 p41
 clear hn hfar
 go_simp
 exact ⟨_, rfl, (by first | with_reducible rfl | (rw [i64_w]) | (rw [Go.IntKind.wrap_i64]; rfl) | rfl), Below.refl _ _⟩
end
end Go.Proofs.Ytjmkccabpnigiaa.P
