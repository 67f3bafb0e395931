import Derived.Test.YtjmkccabpnigiaaQPolyT
import Derived.Test.YtjmkccabpnigiaaQGivenX
import Derived.Test.YtjmkccabpnigiaaQGivenU
namespace Go.Proofs.Ytjmkccabpnigiaa.P
open Go.RowKit Go.Proofs.YtjmkccabpnigiaaW.PrintWords Go.Proofs.YtjmkccabpnigiaaW.PrintLast Go.Proofs.YtjmkccabpnigiaaW.PrintMore
attribute [local go_sem] max2_int min2_int max_two min_two max_three min_three max_four min_four
set_option linter.unusedVariables false
set_option linter.unusedSimpArgs false
set_option maxHeartbeats 1000000
set_option maxRecDepth 100000
theorem want_undef {ops : Array Oper} {a : Act} {o og : Oper} {g : Nat} {t : Tmp} {u : Bool} (hg : o.guard = some (g, u)) (ho : ops[g]? = some og) (hd : og.dst = some t) (hv : a.tmps[t]? = some undef) : Region.wanted o (yielded ops a.tmps) = false := by
 cases u <;> simp [Region.wanted, hg, yielded, ho, hd, hv, undef]
section
variable {a b : S26} {U : Int} {gx gu : Nat} {su tu : Bool} {Au Bu : Option Addr} {nu cu mu du : Nat} {W : World} {B : Array Value → Prop} {DS : List Nat} {PS : List (World → Value → Prop)} {ops : Array Oper} {o : Oper}
theorem ar3_s0 (hop : o.op = .fieldAddr 53 (.tmp 9) 0) (hd : o.dst = some 17) (hg : o.guard = none) (f9 : 9 ∉ DS) (b9 : ∀ base, B base → base[9]? = some (.pointer (some ⟨gx, 0, none⟩))) : StepOK Try.prog ops W B DS PS o 17 (fun _ v => v = .pointer (some ⟨gx, 0, none⟩)) := by
 intro Q base ac w hB hbel hsz hn hfar
 obtain ⟨dst, op, ty, pos, after, guard⟩ := o
 simp only at hop hd hg
 subst hop hd hg
 refine ⟨rfl, ?_⟩
 have e9 := (hfar 9 f9).trans (b9 base hB)
 clear hn hfar b9
 (skip; go_simp; exact ⟨_, rfl, (by first | with_reducible rfl | (rw [i64_w]) | (rw [Go.IntKind.wrap_i64]; rfl) | rfl), Below.refl _ _⟩)
theorem ar3_s1 (hop : o.op = .fieldAddr 26 (.tmp 17) 1) (hd : o.dst = some 18) (hg : o.guard = none) (n0 : 0 ∈ needsOf .any o) (d0 : DS[0]? = some 17) (p0 : PS[0]? = some (fun _ v => v = .pointer (some ⟨gx, 0, none⟩))) : StepOK Try.prog ops W B DS PS o 18 (fun _ v => v = .pointer (some ⟨gx, 1, none⟩)) := by
 intro Q base ac w hB hbel hsz hn hfar
 obtain ⟨dst, op, ty, pos, after, guard⟩ := o
 simp only at hop hd hg
 subst hop hd hg
 refine ⟨rfl, ?_⟩
 obtain ⟨v0, e0, rfl⟩ := hn 0 n0 _ _ d0 p0
 clear hn hfar
 ((try simp only [Bool.not_false, Bool.not_true, Bool.true_and, Bool.false_and, Bool.and_true, Bool.and_false, Bool.false_eq_true, Bool.true_eq_false, reduceIte] at e0); go_simp; exact ⟨_, rfl, (by first | with_reducible rfl | (rw [i64_w]) | (rw [Go.IntKind.wrap_i64]; rfl) | rfl), Below.refl _ _⟩)
theorem ar3_s2 (hop : o.op = .load 3 (.tmp 18)) (hd : o.dst = some 19) (hg : o.guard = none) (n1 : 1 ∈ needsOf .any o) (d1 : DS[1]? = some 18) (p1 : PS[1]? = some (fun _ v => v = .pointer (some ⟨gx, 1, none⟩))) (kx_1 : W.cell? ⟨gx, 1, none⟩ = some (.int .i64 a.f1)) : StepOK Try.prog ops W B DS PS o 19 (fun _ v => v = .int .i64 a.f1) := by
 intro Q base ac w hB hbel hsz hn hfar
 obtain ⟨dst, op, ty, pos, after, guard⟩ := o
 simp only at hop hd hg
 subst hop hd hg
 refine ⟨rfl, ?_⟩
 obtain ⟨v1, e1, rfl⟩ := hn 1 n1 _ _ d1 p1
 have ckx_1 := pw_cell_below hbel kx_1
 clear hn hfar
 ((try simp only [Bool.not_false, Bool.not_true, Bool.true_and, Bool.false_and, Bool.and_true, Bool.and_false, Bool.false_eq_true, Bool.true_eq_false, reduceIte] at e1); go_simp; exact ⟨_, rfl, (by first | with_reducible rfl | (rw [i64_w]) | (rw [Go.IntKind.wrap_i64]; rfl) | rfl), Below.refl _ _⟩)
theorem ar3_s3 (hop : o.op = .call { callee := Go.Callee.value (.func 39), args := #[.tmp 19], argTypes := #[3] }) (hd : o.dst = some 20) (hg : o.guard = none) (n2 : 2 ∈ needsOf .any o) (d2 : DS[2]? = some 19) (p2 : PS[2]? = some (fun _ v => v = .int .i64 a.f1)) (ra0 : -9223372036854775808 ≤ a.f1) (ra1 : a.f1 ≤ 9223372036854775807) : StepOK Try.prog ops W B DS PS o 20 (fun w v => FI w v a.f1) := by
 intro Q base ac w hB hbel hsz hn hfar
 obtain ⟨dst, op, ty, pos, after, guard⟩ := o
 simp only at hop hd hg
 subst hop hd hg
 refine ⟨rfl, ?_⟩
 obtain ⟨v2, e2, rfl⟩ := hn 2 n2 _ _ d2 p2
 clear hn hfar
 ((try simp only [Bool.not_false, Bool.not_true, Bool.true_and, Bool.false_and, Bool.and_true, Bool.and_false, Bool.false_eq_true, Bool.true_eq_false, reduceIte] at e2); go_simp; go_at_call 39; refine (whole_calls (a.f1) ra0 ra1 _).mono ?_; rintro e w2 ⟨r, rfl, hf, hb2⟩; exact ⟨_, rfl, (by first | exact hf | exact fun _ => hf), hb2⟩)
theorem ar3_s4 (hop : o.op = .load 45 (.tmp 5)) (hd : o.dst = some 21) (hg : o.guard = none) (f5 : 5 ∉ DS) (b5 : ∀ base, B base → base[5]? = some (.pointer (some ⟨gu, 0, none⟩))) (ku_0 : W.cell? ⟨gu, 0, none⟩ = some (.bool su)) (ku_1 : W.cell? ⟨gu, 1, none⟩ = some (.slice Au nu cu)) (ku_2 : W.cell? ⟨gu, 2, none⟩ = some (.bool tu)) (ku_3 : W.cell? ⟨gu, 3, none⟩ = some (.slice Bu mu du)) (kuF : FI W (.agg #[.bool su, .slice Au nu cu, .bool tu, .slice Bu mu du]) U) : StepOK Try.prog ops W B DS PS o 21 (fun w v => FI w v U) := by
 intro Q base ac w hB hbel hsz hn hfar
 obtain ⟨dst, op, ty, pos, after, guard⟩ := o
 simp only at hop hd hg
 subst hop hd hg
 refine ⟨rfl, ?_⟩
 have e5 := (hfar 5 f5).trans (b5 base hB)
 have cku_0 := pw_cell_below hbel ku_0
 have cku_1 := pw_cell_below hbel ku_1
 have cku_2 := pw_cell_below hbel ku_2
 have cku_3 := pw_cell_below hbel ku_3
 clear hn hfar b5
 (skip; go_simp; exact ⟨_, rfl, (FI.below kuF hbel), Below.refl _ _⟩)
theorem ar3_s5 (hop : o.op = .call { callee := Go.Callee.value (.func 51), args := #[.tmp 20, .tmp 21], argTypes := #[45, 45] }) (hd : o.dst = some 22) (hg : o.guard = none) (n3 : 3 ∈ needsOf .any o) (d3 : DS[3]? = some 20) (p3 : PS[3]? = some (fun w v => FI w v a.f1)) (n4 : 4 ∈ needsOf .any o) (d4 : DS[4]? = some 21) (p4 : PS[4]? = some (fun w v => FI w v U)) (fa : Fit (a.f1)) (fU : Fit U) : StepOK Try.prog ops W B DS PS o 22 (fun _ v => v = .int .i64 (cmp3 a.f1 U)) := by
 intro Q base ac w hB hbel hsz hn hfar
 obtain ⟨dst, op, ty, pos, after, guard⟩ := o
 simp only at hop hd hg
 subst hop hd hg
 refine ⟨rfl, ?_⟩
 obtain ⟨v3, e3, h3⟩ := hn 3 n3 _ _ d3 p3
 obtain ⟨v4, e4, h4⟩ := hn 4 n4 _ _ d4 p4
 clear hn hfar
 ((try simp only [Bool.not_false, Bool.not_true, Bool.true_and, Bool.false_and, Bool.and_true, Bool.and_false, Bool.false_eq_true, Bool.true_eq_false, reduceIte] at e3 e4); go_simp; go_at_call 51; refine (fcmp_calls _ _ (a.f1) U _ h3 h4 fa fU).mono ?_; rintro e w2 ⟨rfl, hb2⟩; exact ⟨_, rfl, rfl, hb2⟩)
theorem ar3_s6 (hop : o.op = .fieldAddr 53 (.tmp 9) 1) (hd : o.dst = some 23) (hg : o.guard = none) (f9 : 9 ∉ DS) (b9 : ∀ base, B base → base[9]? = some (.pointer (some ⟨gx, 0, none⟩))) : StepOK Try.prog ops W B DS PS o 23 (fun _ v => v = .pointer (some ⟨gx, 2, none⟩)) := by
 intro Q base ac w hB hbel hsz hn hfar
 obtain ⟨dst, op, ty, pos, after, guard⟩ := o
 simp only at hop hd hg
 subst hop hd hg
 refine ⟨rfl, ?_⟩
 have e9 := (hfar 9 f9).trans (b9 base hB)
 clear hn hfar b9
 (skip; go_simp; exact ⟨_, rfl, (by first | with_reducible rfl | (rw [i64_w]) | (rw [Go.IntKind.wrap_i64]; rfl) | rfl), Below.refl _ _⟩)
theorem ar3_s7 (hop : o.op = .fieldAddr 26 (.tmp 23) 1) (hd : o.dst = some 24) (hg : o.guard = none) (n6 : 6 ∈ needsOf .any o) (d6 : DS[6]? = some 23) (p6 : PS[6]? = some (fun _ v => v = .pointer (some ⟨gx, 2, none⟩))) : StepOK Try.prog ops W B DS PS o 24 (fun _ v => v = .pointer (some ⟨gx, 3, none⟩)) := by
 intro Q base ac w hB hbel hsz hn hfar
 obtain ⟨dst, op, ty, pos, after, guard⟩ := o
 simp only at hop hd hg
 subst hop hd hg
 refine ⟨rfl, ?_⟩
 obtain ⟨v6, e6, rfl⟩ := hn 6 n6 _ _ d6 p6
 clear hn hfar
 ((try simp only [Bool.not_false, Bool.not_true, Bool.true_and, Bool.false_and, Bool.and_true, Bool.and_false, Bool.false_eq_true, Bool.true_eq_false, reduceIte] at e6); go_simp; exact ⟨_, rfl, (by first | with_reducible rfl | (rw [i64_w]) | (rw [Go.IntKind.wrap_i64]; rfl) | rfl), Below.refl _ _⟩)
theorem ar3_s8 (hop : o.op = .load 3 (.tmp 24)) (hd : o.dst = some 25) (hg : o.guard = none) (n7 : 7 ∈ needsOf .any o) (d7 : DS[7]? = some 24) (p7 : PS[7]? = some (fun _ v => v = .pointer (some ⟨gx, 3, none⟩))) (kx_3 : W.cell? ⟨gx, 3, none⟩ = some (.int .i64 b.f1)) : StepOK Try.prog ops W B DS PS o 25 (fun _ v => v = .int .i64 b.f1) := by
 intro Q base ac w hB hbel hsz hn hfar
 obtain ⟨dst, op, ty, pos, after, guard⟩ := o
 simp only at hop hd hg
 subst hop hd hg
 refine ⟨rfl, ?_⟩
 obtain ⟨v7, e7, rfl⟩ := hn 7 n7 _ _ d7 p7
 have ckx_3 := pw_cell_below hbel kx_3
 clear hn hfar
 ((try simp only [Bool.not_false, Bool.not_true, Bool.true_and, Bool.false_and, Bool.and_true, Bool.and_false, Bool.false_eq_true, Bool.true_eq_false, reduceIte] at e7); go_simp; exact ⟨_, rfl, (by first | with_reducible rfl | (rw [i64_w]) | (rw [Go.IntKind.wrap_i64]; rfl) | rfl), Below.refl _ _⟩)
theorem ar3_s9 (hop : o.op = .call { callee := Go.Callee.value (.func 39), args := #[.tmp 25], argTypes := #[3] }) (hd : o.dst = some 26) (hg : o.guard = none) (n8 : 8 ∈ needsOf .any o) (d8 : DS[8]? = some 25) (p8 : PS[8]? = some (fun _ v => v = .int .i64 b.f1)) (rb0 : -9223372036854775808 ≤ b.f1) (rb1 : b.f1 ≤ 9223372036854775807) : StepOK Try.prog ops W B DS PS o 26 (fun w v => FI w v b.f1) := by
 intro Q base ac w hB hbel hsz hn hfar
 obtain ⟨dst, op, ty, pos, after, guard⟩ := o
 simp only at hop hd hg
 subst hop hd hg
 refine ⟨rfl, ?_⟩
 obtain ⟨v8, e8, rfl⟩ := hn 8 n8 _ _ d8 p8
 clear hn hfar
 ((try simp only [Bool.not_false, Bool.not_true, Bool.true_and, Bool.false_and, Bool.and_true, Bool.and_false, Bool.false_eq_true, Bool.true_eq_false, reduceIte] at e8); go_simp; go_at_call 39; refine (whole_calls (b.f1) rb0 rb1 _).mono ?_; rintro e w2 ⟨r, rfl, hf, hb2⟩; exact ⟨_, rfl, (by first | exact hf | exact fun _ => hf), hb2⟩)
theorem ar3_s10 (hop : o.op = .load 45 (.tmp 5)) (hd : o.dst = some 27) (hg : o.guard = none) (f5 : 5 ∉ DS) (b5 : ∀ base, B base → base[5]? = some (.pointer (some ⟨gu, 0, none⟩))) (ku_0 : W.cell? ⟨gu, 0, none⟩ = some (.bool su)) (ku_1 : W.cell? ⟨gu, 1, none⟩ = some (.slice Au nu cu)) (ku_2 : W.cell? ⟨gu, 2, none⟩ = some (.bool tu)) (ku_3 : W.cell? ⟨gu, 3, none⟩ = some (.slice Bu mu du)) (kuF : FI W (.agg #[.bool su, .slice Au nu cu, .bool tu, .slice Bu mu du]) U) : StepOK Try.prog ops W B DS PS o 27 (fun w v => FI w v U) := by
 intro Q base ac w hB hbel hsz hn hfar
 obtain ⟨dst, op, ty, pos, after, guard⟩ := o
 simp only at hop hd hg
 subst hop hd hg
 refine ⟨rfl, ?_⟩
 have e5 := (hfar 5 f5).trans (b5 base hB)
 have cku_0 := pw_cell_below hbel ku_0
 have cku_1 := pw_cell_below hbel ku_1
 have cku_2 := pw_cell_below hbel ku_2
 have cku_3 := pw_cell_below hbel ku_3
 clear hn hfar b5
 (skip; go_simp; exact ⟨_, rfl, (FI.below kuF hbel), Below.refl _ _⟩)
theorem ar3_s11 (hop : o.op = .call { callee := Go.Callee.value (.func 51), args := #[.tmp 26, .tmp 27], argTypes := #[45, 45] }) (hd : o.dst = some 28) (hg : o.guard = none) (n9 : 9 ∈ needsOf .any o) (d9 : DS[9]? = some 26) (p9 : PS[9]? = some (fun w v => FI w v b.f1)) (n10 : 10 ∈ needsOf .any o) (d10 : DS[10]? = some 27) (p10 : PS[10]? = some (fun w v => FI w v U)) (fb : Fit (b.f1)) (fU : Fit U) : StepOK Try.prog ops W B DS PS o 28 (fun _ v => v = .int .i64 (cmp3 b.f1 U)) := by
 intro Q base ac w hB hbel hsz hn hfar
 obtain ⟨dst, op, ty, pos, after, guard⟩ := o
 simp only at hop hd hg
 subst hop hd hg
 refine ⟨rfl, ?_⟩
 obtain ⟨v9, e9, h9⟩ := hn 9 n9 _ _ d9 p9
 obtain ⟨v10, e10, h10⟩ := hn 10 n10 _ _ d10 p10
 clear hn hfar
 ((try simp only [Bool.not_false, Bool.not_true, Bool.true_and, Bool.false_and, Bool.and_true, Bool.and_false, Bool.false_eq_true, Bool.true_eq_false, reduceIte] at e9 e10); go_simp; go_at_call 51; refine (fcmp_calls _ _ (b.f1) U _ h9 h10 fb fU).mono ?_; rintro e w2 ⟨rfl, hb2⟩; exact ⟨_, rfl, rfl, hb2⟩)
theorem ar3_s12 (hop : o.op = .assign (.tmp 22)) (hd : o.dst = some 10) (hg : o.guard = none) (n5 : 5 ∈ needsOf .any o) (d5 : DS[5]? = some 22) (p5 : PS[5]? = some (fun _ v => v = .int .i64 (cmp3 a.f1 U))) : StepOK Try.prog ops W B DS PS o 10 (fun _ v => v = .int .i64 (cmp3 a.f1 U)) := by
 intro Q base ac w hB hbel hsz hn hfar
 obtain ⟨dst, op, ty, pos, after, guard⟩ := o
 simp only at hop hd hg
 subst hop hd hg
 refine ⟨rfl, ?_⟩
 obtain ⟨v5, e5, rfl⟩ := hn 5 n5 _ _ d5 p5
 clear hn hfar
 ((try simp only [Bool.not_false, Bool.not_true, Bool.true_and, Bool.false_and, Bool.and_true, Bool.and_false, Bool.false_eq_true, Bool.true_eq_false, reduceIte] at e5); go_simp; exact ⟨_, rfl, (by first | with_reducible rfl | (rw [i64_w]) | (rw [Go.IntKind.wrap_i64]; rfl) | rfl), Below.refl _ _⟩)
theorem ar3_s13 (hop : o.op = .assign (.tmp 28)) (hd : o.dst = some 11) (hg : o.guard = none) (n11 : 11 ∈ needsOf .any o) (d11 : DS[11]? = some 28) (p11 : PS[11]? = some (fun _ v => v = .int .i64 (cmp3 b.f1 U))) : StepOK Try.prog ops W B DS PS o 11 (fun _ v => v = .int .i64 (cmp3 b.f1 U)) := by
 intro Q base ac w hB hbel hsz hn hfar
 obtain ⟨dst, op, ty, pos, after, guard⟩ := o
 simp only at hop hd hg
 subst hop hd hg
 refine ⟨rfl, ?_⟩
 obtain ⟨v11, e11, rfl⟩ := hn 11 n11 _ _ d11 p11
 clear hn hfar
 ((try simp only [Bool.not_false, Bool.not_true, Bool.true_and, Bool.false_and, Bool.and_true, Bool.and_false, Bool.false_eq_true, Bool.true_eq_false, reduceIte] at e11); go_simp; exact ⟨_, rfl, (by first | with_reducible rfl | (rw [i64_w]) | (rw [Go.IntKind.wrap_i64]; rfl) | rfl), Below.refl _ _⟩)
end
section
variable {a b : S26} {U : Int} {gx gu g7 : Nat} {q c1 c2 : Bool} {su tu : Bool} {Au Bu : Option Addr} {nu cu mu du : Nat} {W : World} {B : Array Value → Prop} {DS : List Nat} {PS : List (World → Value → Prop)} {ops : Array Oper} {o : Oper}
theorem ar10_s0 (hop : o.op = .load 4 (.tmp 7)) (hd : o.dst = some 62) (hg : o.guard = none) (f7 : 7 ∉ DS) (b7 : ∀ base, B base → base[7]? = some (.pointer (some ⟨g7, 0, none⟩))) (k7 : W.cell? ⟨g7, 0, none⟩ = some (.bool q)) : StepOK Try.prog ops W B DS PS o 62 (fun _ v => v = .bool q) := by
 intro Q base ac w hB hbel hsz hn hfar
 obtain ⟨dst, op, ty, pos, after, guard⟩ := o
 simp only at hop hd hg
 subst hop hd hg
 refine ⟨rfl, ?_⟩
 have e7 := (hfar 7 f7).trans (b7 base hB)
 have ck7 := pw_cell_below hbel k7
 clear hn hfar b7
 (skip; go_simp; exact ⟨_, rfl, (by first | with_reducible rfl | (rw [i64_w]) | (rw [Go.IntKind.wrap_i64]; rfl) | rfl), Below.refl _ _⟩)
theorem ar10_s1 (hop : o.op = .move (.tmp 62)) (hd : o.dst = some 63) (hg : o.guard = none) (n0 : 0 ∈ needsOf .any o) (d0 : DS[0]? = some 62) (p0 : PS[0]? = some (fun _ v => v = .bool q)) : StepOK Try.prog ops W B DS PS o 63 (fun _ v => v = .bool q) := by
 intro Q base ac w hB hbel hsz hn hfar
 obtain ⟨dst, op, ty, pos, after, guard⟩ := o
 simp only at hop hd hg
 subst hop hd hg
 refine ⟨rfl, ?_⟩
 obtain ⟨v0, e0, rfl⟩ := hn 0 n0 _ _ d0 p0
 clear hn hfar
 ((try simp only [Bool.not_false, Bool.not_true, Bool.true_and, Bool.false_and, Bool.and_true, Bool.and_false, Bool.false_eq_true, Bool.true_eq_false, reduceIte] at e0); go_simp; exact ⟨_, rfl, (by first | with_reducible rfl | (rw [i64_w]) | (rw [Go.IntKind.wrap_i64]; rfl) | rfl), Below.refl _ _⟩)
theorem ar10_s2 (hop : o.op = .fieldAddr 53 (.tmp 9) 0) (hd : o.dst = some 64) (hg : o.guard = some (1, false)) (n1 : 1 ∈ needsOf .any o) (d1 : DS[1]? = some 63) (p1 : PS[1]? = some (fun _ v => v = .bool q)) (hw : ∃ og, ops[1]? = some og ∧ og.dst = some 63) (f9 : 9 ∉ DS) (b9 : ∀ base, B base → base[9]? = some (.pointer (some ⟨gx, 0, none⟩))) : StepOK Try.prog ops W B DS PS o 64 (fun _ v => v = (if (!q) = true then .pointer (some ⟨gx, 0, none⟩) else undef)) := by
 intro Q base ac w hB hbel hsz hn hfar
 obtain ⟨dst, op, ty, pos, after, guard⟩ := o
 simp only at hop hd hg
 subst hop hd hg
 refine ⟨rfl, ?_⟩
 have e9 := (hfar 9 f9).trans (b9 base hB)
 obtain ⟨v1, e1, rfl⟩ := hn 1 n1 _ _ d1 p1
 clear hn hfar b9
 obtain ⟨og, hog, hod⟩ := hw
 cases q <;> ((try simp only [Bool.not_false, Bool.not_true, Bool.true_and, Bool.false_and, Bool.and_true, Bool.and_false, Bool.false_eq_true, Bool.true_eq_false, reduceIte] at e1); (first | (rw [if_neg (by rw [want_off rfl hog hod e1 (by decide)]; decide)]; first | rfl | simp) | (rw [if_neg (by rw [want_undef rfl hog hod e1]; decide)]; first | rfl | simp) | (rw [if_pos (want_on rfl hog hod e1)]; go_simp; exact ⟨_, rfl, (by first | with_reducible rfl | (rw [i64_w]) | (rw [Go.IntKind.wrap_i64]; rfl) | rfl), Below.refl _ _⟩)))
theorem ar10_s3 (hop : o.op = .fieldAddr 26 (.tmp 64) 0) (hd : o.dst = some 65) (hg : o.guard = some (1, false)) (n2 : 2 ∈ needsOf .any o) (d2 : DS[2]? = some 64) (p2 : PS[2]? = some (fun _ v => v = (if (!q) = true then .pointer (some ⟨gx, 0, none⟩) else undef))) (n1 : 1 ∈ needsOf .any o) (d1 : DS[1]? = some 63) (p1 : PS[1]? = some (fun _ v => v = .bool q)) (hw : ∃ og, ops[1]? = some og ∧ og.dst = some 63) : StepOK Try.prog ops W B DS PS o 65 (fun _ v => v = (if (!q) = true then .pointer (some ⟨gx, 0, none⟩) else undef)) := by
 intro Q base ac w hB hbel hsz hn hfar
 obtain ⟨dst, op, ty, pos, after, guard⟩ := o
 simp only at hop hd hg
 subst hop hd hg
 refine ⟨rfl, ?_⟩
 obtain ⟨v2, e2, rfl⟩ := hn 2 n2 _ _ d2 p2
 obtain ⟨v1, e1, rfl⟩ := hn 1 n1 _ _ d1 p1
 clear hn hfar
 obtain ⟨og, hog, hod⟩ := hw
 cases q <;> ((try simp only [Bool.not_false, Bool.not_true, Bool.true_and, Bool.false_and, Bool.and_true, Bool.and_false, Bool.false_eq_true, Bool.true_eq_false, reduceIte] at e2 e1); (first | (rw [if_neg (by rw [want_off rfl hog hod e1 (by decide)]; decide)]; first | rfl | simp) | (rw [if_neg (by rw [want_undef rfl hog hod e1]; decide)]; first | rfl | simp) | (rw [if_pos (want_on rfl hog hod e1)]; go_simp; exact ⟨_, rfl, (by first | with_reducible rfl | (rw [i64_w]) | (rw [Go.IntKind.wrap_i64]; rfl) | rfl), Below.refl _ _⟩)))
theorem ar10_s4 (hop : o.op = .load 3 (.tmp 65)) (hd : o.dst = some 66) (hg : o.guard = some (1, false)) (n3 : 3 ∈ needsOf .any o) (d3 : DS[3]? = some 65) (p3 : PS[3]? = some (fun _ v => v = (if (!q) = true then .pointer (some ⟨gx, 0, none⟩) else undef))) (n1 : 1 ∈ needsOf .any o) (d1 : DS[1]? = some 63) (p1 : PS[1]? = some (fun _ v => v = .bool q)) (hw : ∃ og, ops[1]? = some og ∧ og.dst = some 63) (kx_0 : W.cell? ⟨gx, 0, none⟩ = some (.int .i64 a.f0)) : StepOK Try.prog ops W B DS PS o 66 (fun _ v => v = (if (!q) = true then .int .i64 a.f0 else undef)) := by
 intro Q base ac w hB hbel hsz hn hfar
 obtain ⟨dst, op, ty, pos, after, guard⟩ := o
 simp only at hop hd hg
 subst hop hd hg
 refine ⟨rfl, ?_⟩
 obtain ⟨v3, e3, rfl⟩ := hn 3 n3 _ _ d3 p3
 obtain ⟨v1, e1, rfl⟩ := hn 1 n1 _ _ d1 p1
 have ckx_0 := pw_cell_below hbel kx_0
 clear hn hfar
 obtain ⟨og, hog, hod⟩ := hw
 cases q <;> ((try simp only [Bool.not_false, Bool.not_true, Bool.true_and, Bool.false_and, Bool.and_true, Bool.and_false, Bool.false_eq_true, Bool.true_eq_false, reduceIte] at e3 e1); (first | (rw [if_neg (by rw [want_off rfl hog hod e1 (by decide)]; decide)]; first | rfl | simp) | (rw [if_neg (by rw [want_undef rfl hog hod e1]; decide)]; first | rfl | simp) | (rw [if_pos (want_on rfl hog hod e1)]; go_simp; exact ⟨_, rfl, (by first | with_reducible rfl | (rw [i64_w]) | (rw [Go.IntKind.wrap_i64]; rfl) | rfl), Below.refl _ _⟩)))
theorem ar10_s5 (hop : o.op = .fieldAddr 53 (.tmp 9) 1) (hd : o.dst = some 67) (hg : o.guard = some (1, false)) (n1 : 1 ∈ needsOf .any o) (d1 : DS[1]? = some 63) (p1 : PS[1]? = some (fun _ v => v = .bool q)) (hw : ∃ og, ops[1]? = some og ∧ og.dst = some 63) (f9 : 9 ∉ DS) (b9 : ∀ base, B base → base[9]? = some (.pointer (some ⟨gx, 0, none⟩))) : StepOK Try.prog ops W B DS PS o 67 (fun _ v => v = (if (!q) = true then .pointer (some ⟨gx, 2, none⟩) else undef)) := by
 intro Q base ac w hB hbel hsz hn hfar
 obtain ⟨dst, op, ty, pos, after, guard⟩ := o
 simp only at hop hd hg
 subst hop hd hg
 refine ⟨rfl, ?_⟩
 have e9 := (hfar 9 f9).trans (b9 base hB)
 obtain ⟨v1, e1, rfl⟩ := hn 1 n1 _ _ d1 p1
 clear hn hfar b9
 obtain ⟨og, hog, hod⟩ := hw
 cases q <;> ((try simp only [Bool.not_false, Bool.not_true, Bool.true_and, Bool.false_and, Bool.and_true, Bool.and_false, Bool.false_eq_true, Bool.true_eq_false, reduceIte] at e1); (first | (rw [if_neg (by rw [want_off rfl hog hod e1 (by decide)]; decide)]; first | rfl | simp) | (rw [if_neg (by rw [want_undef rfl hog hod e1]; decide)]; first | rfl | simp) | (rw [if_pos (want_on rfl hog hod e1)]; go_simp; exact ⟨_, rfl, (by first | with_reducible rfl | (rw [i64_w]) | (rw [Go.IntKind.wrap_i64]; rfl) | rfl), Below.refl _ _⟩)))
theorem ar10_s6 (hop : o.op = .fieldAddr 26 (.tmp 67) 0) (hd : o.dst = some 68) (hg : o.guard = some (1, false)) (n5 : 5 ∈ needsOf .any o) (d5 : DS[5]? = some 67) (p5 : PS[5]? = some (fun _ v => v = (if (!q) = true then .pointer (some ⟨gx, 2, none⟩) else undef))) (n1 : 1 ∈ needsOf .any o) (d1 : DS[1]? = some 63) (p1 : PS[1]? = some (fun _ v => v = .bool q)) (hw : ∃ og, ops[1]? = some og ∧ og.dst = some 63) : StepOK Try.prog ops W B DS PS o 68 (fun _ v => v = (if (!q) = true then .pointer (some ⟨gx, 2, none⟩) else undef)) := by
 intro Q base ac w hB hbel hsz hn hfar
 obtain ⟨dst, op, ty, pos, after, guard⟩ := o
 simp only at hop hd hg
 subst hop hd hg
 refine ⟨rfl, ?_⟩
 obtain ⟨v5, e5, rfl⟩ := hn 5 n5 _ _ d5 p5
 obtain ⟨v1, e1, rfl⟩ := hn 1 n1 _ _ d1 p1
 clear hn hfar
 obtain ⟨og, hog, hod⟩ := hw
 cases q <;> ((try simp only [Bool.not_false, Bool.not_true, Bool.true_and, Bool.false_and, Bool.and_true, Bool.and_false, Bool.false_eq_true, Bool.true_eq_false, reduceIte] at e5 e1); (first | (rw [if_neg (by rw [want_off rfl hog hod e1 (by decide)]; decide)]; first | rfl | simp) | (rw [if_neg (by rw [want_undef rfl hog hod e1]; decide)]; first | rfl | simp) | (rw [if_pos (want_on rfl hog hod e1)]; go_simp; exact ⟨_, rfl, (by first | with_reducible rfl | (rw [i64_w]) | (rw [Go.IntKind.wrap_i64]; rfl) | rfl), Below.refl _ _⟩)))
theorem ar10_s7 (hop : o.op = .load 3 (.tmp 68)) (hd : o.dst = some 69) (hg : o.guard = some (1, false)) (n6 : 6 ∈ needsOf .any o) (d6 : DS[6]? = some 68) (p6 : PS[6]? = some (fun _ v => v = (if (!q) = true then .pointer (some ⟨gx, 2, none⟩) else undef))) (n1 : 1 ∈ needsOf .any o) (d1 : DS[1]? = some 63) (p1 : PS[1]? = some (fun _ v => v = .bool q)) (hw : ∃ og, ops[1]? = some og ∧ og.dst = some 63) (kx_2 : W.cell? ⟨gx, 2, none⟩ = some (.int .i64 b.f0)) : StepOK Try.prog ops W B DS PS o 69 (fun _ v => v = (if (!q) = true then .int .i64 b.f0 else undef)) := by
 intro Q base ac w hB hbel hsz hn hfar
 obtain ⟨dst, op, ty, pos, after, guard⟩ := o
 simp only at hop hd hg
 subst hop hd hg
 refine ⟨rfl, ?_⟩
 obtain ⟨v6, e6, rfl⟩ := hn 6 n6 _ _ d6 p6
 obtain ⟨v1, e1, rfl⟩ := hn 1 n1 _ _ d1 p1
 have ckx_2 := pw_cell_below hbel kx_2
 clear hn hfar
 obtain ⟨og, hog, hod⟩ := hw
 cases q <;> ((try simp only [Bool.not_false, Bool.not_true, Bool.true_and, Bool.false_and, Bool.and_true, Bool.and_false, Bool.false_eq_true, Bool.true_eq_false, reduceIte] at e6 e1); (first | (rw [if_neg (by rw [want_off rfl hog hod e1 (by decide)]; decide)]; first | rfl | simp) | (rw [if_neg (by rw [want_undef rfl hog hod e1]; decide)]; first | rfl | simp) | (rw [if_pos (want_on rfl hog hod e1)]; go_simp; exact ⟨_, rfl, (by first | with_reducible rfl | (rw [i64_w]) | (rw [Go.IntKind.wrap_i64]; rfl) | rfl), Below.refl _ _⟩)))
theorem ar10_s8 (hop : o.op = .call { callee := Go.Callee.builtin Go.Builtin.min, args := #[.tmp 66, .tmp 69], argTypes := #[3, 3] }) (hd : o.dst = some 70) (hg : o.guard = some (1, false)) (n4 : 4 ∈ needsOf .any o) (d4 : DS[4]? = some 66) (p4 : PS[4]? = some (fun _ v => v = (if (!q) = true then .int .i64 a.f0 else undef))) (n7 : 7 ∈ needsOf .any o) (d7 : DS[7]? = some 69) (p7 : PS[7]? = some (fun _ v => v = (if (!q) = true then .int .i64 b.f0 else undef))) (n1 : 1 ∈ needsOf .any o) (d1 : DS[1]? = some 63) (p1 : PS[1]? = some (fun _ v => v = .bool q)) (hw : ∃ og, ops[1]? = some og ∧ og.dst = some 63) : StepOK Try.prog ops W B DS PS o 70 (fun _ v => v = (if (!q) = true then .int .i64 (mn a.f0 b.f0) else undef)) := by
 intro Q base ac w hB hbel hsz hn hfar
 obtain ⟨dst, op, ty, pos, after, guard⟩ := o
 simp only at hop hd hg
 subst hop hd hg
 refine ⟨rfl, ?_⟩
 obtain ⟨v4, e4, rfl⟩ := hn 4 n4 _ _ d4 p4
 obtain ⟨v7, e7, rfl⟩ := hn 7 n7 _ _ d7 p7
 obtain ⟨v1, e1, rfl⟩ := hn 1 n1 _ _ d1 p1
 clear hn hfar
 obtain ⟨og, hog, hod⟩ := hw
 cases q <;> ((try simp only [Bool.not_false, Bool.not_true, Bool.true_and, Bool.false_and, Bool.and_true, Bool.and_false, Bool.false_eq_true, Bool.true_eq_false, reduceIte] at e4 e7 e1); (first | (rw [if_neg (by rw [want_off rfl hog hod e1 (by decide)]; decide)]; first | rfl | simp) | (rw [if_neg (by rw [want_undef rfl hog hod e1]; decide)]; first | rfl | simp) | (rw [if_pos (want_on rfl hog hod e1)]; go_simp; exact ⟨_, rfl, (by first | with_reducible rfl | (rw [i64_w]) | (rw [Go.IntKind.wrap_i64]; rfl) | rfl), Below.refl _ _⟩)))
theorem ar10_s9 (hop : o.op = .call { callee := Go.Callee.value (.func 39), args := #[.tmp 70], argTypes := #[3] }) (hd : o.dst = some 71) (hg : o.guard = some (1, false)) (n8 : 8 ∈ needsOf .any o) (d8 : DS[8]? = some 70) (p8 : PS[8]? = some (fun _ v => v = (if (!q) = true then .int .i64 (mn a.f0 b.f0) else undef))) (n1 : 1 ∈ needsOf .any o) (d1 : DS[1]? = some 63) (p1 : PS[1]? = some (fun _ v => v = .bool q)) (hw : ∃ og, ops[1]? = some og ∧ og.dst = some 63) (rm0 : -9223372036854775808 ≤ mn a.f0 b.f0) (rm1 : mn a.f0 b.f0 ≤ 9223372036854775807) : StepOK Try.prog ops W B DS PS o 71 (fun w v => (!q) = true → FI w v (mn a.f0 b.f0)) := by
 intro Q base ac w hB hbel hsz hn hfar
 obtain ⟨dst, op, ty, pos, after, guard⟩ := o
 simp only at hop hd hg
 subst hop hd hg
 refine ⟨rfl, ?_⟩
 obtain ⟨v8, e8, rfl⟩ := hn 8 n8 _ _ d8 p8
 obtain ⟨v1, e1, rfl⟩ := hn 1 n1 _ _ d1 p1
 clear hn hfar
 obtain ⟨og, hog, hod⟩ := hw
 cases q <;> ((try simp only [Bool.not_false, Bool.not_true, Bool.true_and, Bool.false_and, Bool.and_true, Bool.and_false, Bool.false_eq_true, Bool.true_eq_false, reduceIte] at e8 e1); (first | (rw [if_neg (by rw [want_off rfl hog hod e1 (by decide)]; decide)]; exact fun h => absurd h (by decide)) | (rw [if_neg (by rw [want_undef rfl hog hod e1]; decide)]; exact fun h => absurd h (by decide)) | (rw [if_pos (want_on rfl hog hod e1)]; go_simp; go_at_call 39; refine (whole_calls (mn a.f0 b.f0) rm0 rm1 _).mono ?_; rintro e w2 ⟨r, rfl, hf, hb2⟩; exact ⟨_, rfl, (by first | exact hf | exact fun _ => hf), hb2⟩)))
theorem ar10_s10 (hop : o.op = .load 45 (.tmp 4)) (hd : o.dst = some 72) (hg : o.guard = some (1, false)) (n1 : 1 ∈ needsOf .any o) (d1 : DS[1]? = some 63) (p1 : PS[1]? = some (fun _ v => v = .bool q)) (hw : ∃ og, ops[1]? = some og ∧ og.dst = some 63) (f4 : 4 ∉ DS) (b4 : ∀ base, B base → base[4]? = some (.pointer (some ⟨gu, 0, none⟩))) (ku_0 : W.cell? ⟨gu, 0, none⟩ = some (.bool su)) (ku_1 : W.cell? ⟨gu, 1, none⟩ = some (.slice Au nu cu)) (ku_2 : W.cell? ⟨gu, 2, none⟩ = some (.bool tu)) (ku_3 : W.cell? ⟨gu, 3, none⟩ = some (.slice Bu mu du)) (kuF : FI W (.agg #[.bool su, .slice Au nu cu, .bool tu, .slice Bu mu du]) U) : StepOK Try.prog ops W B DS PS o 72 (fun w v => (!q) = true → FI w v U) := by
 intro Q base ac w hB hbel hsz hn hfar
 obtain ⟨dst, op, ty, pos, after, guard⟩ := o
 simp only at hop hd hg
 subst hop hd hg
 refine ⟨rfl, ?_⟩
 have e4 := (hfar 4 f4).trans (b4 base hB)
 obtain ⟨v1, e1, rfl⟩ := hn 1 n1 _ _ d1 p1
 have cku_0 := pw_cell_below hbel ku_0
 have cku_1 := pw_cell_below hbel ku_1
 have cku_2 := pw_cell_below hbel ku_2
 have cku_3 := pw_cell_below hbel ku_3
 clear hn hfar b4
 obtain ⟨og, hog, hod⟩ := hw
 cases q <;> ((try simp only [Bool.not_false, Bool.not_true, Bool.true_and, Bool.false_and, Bool.and_true, Bool.and_false, Bool.false_eq_true, Bool.true_eq_false, reduceIte] at e1); (first | (rw [if_neg (by rw [want_off rfl hog hod e1 (by decide)]; decide)]; exact fun h => absurd h (by decide)) | (rw [if_neg (by rw [want_undef rfl hog hod e1]; decide)]; exact fun h => absurd h (by decide)) | (rw [if_pos (want_on rfl hog hod e1)]; go_simp; exact ⟨_, rfl, (by first | exact FI.below kuF hbel | exact fun _ => FI.below kuF hbel), Below.refl _ _⟩)))
theorem ar10_s11 (hop : o.op = .call { callee := Go.Callee.value (.func 51), args := #[.tmp 71, .tmp 72], argTypes := #[45, 45] }) (hd : o.dst = some 73) (hg : o.guard = some (1, false)) (n9 : 9 ∈ needsOf .any o) (d9 : DS[9]? = some 71) (p9 : PS[9]? = some (fun w v => (!q) = true → FI w v (mn a.f0 b.f0))) (n10 : 10 ∈ needsOf .any o) (d10 : DS[10]? = some 72) (p10 : PS[10]? = some (fun w v => (!q) = true → FI w v U)) (n1 : 1 ∈ needsOf .any o) (d1 : DS[1]? = some 63) (p1 : PS[1]? = some (fun _ v => v = .bool q)) (hw : ∃ og, ops[1]? = some og ∧ og.dst = some 63) (fm : Fit (mn a.f0 b.f0)) (fU : Fit U) : StepOK Try.prog ops W B DS PS o 73 (fun _ v => v = (if (!q) = true then .int .i64 (cmp3 (mn a.f0 b.f0) U) else undef)) := by
 intro Q base ac w hB hbel hsz hn hfar
 obtain ⟨dst, op, ty, pos, after, guard⟩ := o
 simp only at hop hd hg
 subst hop hd hg
 refine ⟨rfl, ?_⟩
 obtain ⟨v9, e9, h9⟩ := hn 9 n9 _ _ d9 p9
 obtain ⟨v10, e10, h10⟩ := hn 10 n10 _ _ d10 p10
 obtain ⟨v1, e1, rfl⟩ := hn 1 n1 _ _ d1 p1
 clear hn hfar
 obtain ⟨og, hog, hod⟩ := hw
 cases q <;> ((try simp only [Bool.not_false, Bool.not_true, Bool.true_and, Bool.false_and, Bool.and_true, Bool.and_false, Bool.false_eq_true, Bool.true_eq_false, reduceIte] at e9 e10 e1); (first | (rw [if_neg (by rw [want_off rfl hog hod e1 (by decide)]; decide)]; first | rfl | simp) | (rw [if_neg (by rw [want_undef rfl hog hod e1]; decide)]; first | rfl | simp) | (rw [if_pos (want_on rfl hog hod e1)]; go_simp; go_at_call 51; refine (fcmp_calls _ _ (mn a.f0 b.f0) U _ (h9 rfl) (h10 rfl) fm fU).mono ?_; rintro e w2 ⟨rfl, hb2⟩; exact ⟨_, rfl, rfl, hb2⟩)))
theorem ar10_s12 (hop : o.op = .binOp Go.BinOp.leq 3 (.tmp 73) (.const (.int .i64 0)) 3) (hd : o.dst = some 74) (hg : o.guard = some (1, false)) (n11 : 11 ∈ needsOf .any o) (d11 : DS[11]? = some 73) (p11 : PS[11]? = some (fun _ v => v = (if (!q) = true then .int .i64 (cmp3 (mn a.f0 b.f0) U) else undef))) (n1 : 1 ∈ needsOf .any o) (d1 : DS[1]? = some 63) (p1 : PS[1]? = some (fun _ v => v = .bool q)) (hw : ∃ og, ops[1]? = some og ∧ og.dst = some 63) (ec1 : c1 = decide (cmp3 (mn a.f0 b.f0) U ≤ 0)) : StepOK Try.prog ops W B DS PS o 74 (fun _ v => v = (if (!q) = true then .bool c1 else undef)) := by
 intro Q base ac w hB hbel hsz hn hfar
 obtain ⟨dst, op, ty, pos, after, guard⟩ := o
 simp only at hop hd hg
 subst hop hd hg
 refine ⟨rfl, ?_⟩
 obtain ⟨v11, e11, rfl⟩ := hn 11 n11 _ _ d11 p11
 obtain ⟨v1, e1, rfl⟩ := hn 1 n1 _ _ d1 p1
 clear hn hfar
 subst ec1
 obtain ⟨og, hog, hod⟩ := hw
 cases q <;> ((try simp only [Bool.not_false, Bool.not_true, Bool.true_and, Bool.false_and, Bool.and_true, Bool.and_false, Bool.false_eq_true, Bool.true_eq_false, reduceIte] at e11 e1); (first | (rw [if_neg (by rw [want_off rfl hog hod e1 (by decide)]; decide)]; first | rfl | simp) | (rw [if_neg (by rw [want_undef rfl hog hod e1]; decide)]; first | rfl | simp) | (rw [if_pos (want_on rfl hog hod e1)]; go_simp; exact ⟨_, rfl, (by first | with_reducible rfl | (rw [i64_w]) | (rw [Go.IntKind.wrap_i64]; rfl) | rfl), Below.refl _ _⟩)))
theorem ar10_s13 (hop : o.op = .move (.tmp 74)) (hd : o.dst = some 75) (hg : o.guard = some (1, false)) (n12 : 12 ∈ needsOf .any o) (d12 : DS[12]? = some 74) (p12 : PS[12]? = some (fun _ v => v = (if (!q) = true then .bool c1 else undef))) (n1 : 1 ∈ needsOf .any o) (d1 : DS[1]? = some 63) (p1 : PS[1]? = some (fun _ v => v = .bool q)) (hw : ∃ og, ops[1]? = some og ∧ og.dst = some 63) : StepOK Try.prog ops W B DS PS o 75 (fun _ v => v = (if (!q) = true then .bool c1 else undef)) := by
 intro Q base ac w hB hbel hsz hn hfar
 obtain ⟨dst, op, ty, pos, after, guard⟩ := o
 simp only at hop hd hg
 subst hop hd hg
 refine ⟨rfl, ?_⟩
 obtain ⟨v12, e12, rfl⟩ := hn 12 n12 _ _ d12 p12
 obtain ⟨v1, e1, rfl⟩ := hn 1 n1 _ _ d1 p1
 clear hn hfar
 obtain ⟨og, hog, hod⟩ := hw
 cases q <;> ((try simp only [Bool.not_false, Bool.not_true, Bool.true_and, Bool.false_and, Bool.and_true, Bool.and_false, Bool.false_eq_true, Bool.true_eq_false, reduceIte] at e12 e1); (first | (rw [if_neg (by rw [want_off rfl hog hod e1 (by decide)]; decide)]; first | rfl | simp) | (rw [if_neg (by rw [want_undef rfl hog hod e1]; decide)]; first | rfl | simp) | (rw [if_pos (want_on rfl hog hod e1)]; go_simp; exact ⟨_, rfl, (by first | with_reducible rfl | (rw [i64_w]) | (rw [Go.IntKind.wrap_i64]; rfl) | rfl), Below.refl _ _⟩)))
theorem ar10_s14 (hop : o.op = .fieldAddr 53 (.tmp 9) 0) (hd : o.dst = some 76) (hg : o.guard = some (13, true)) (n13 : 13 ∈ needsOf .any o) (d13 : DS[13]? = some 75) (p13 : PS[13]? = some (fun _ v => v = (if (!q) = true then .bool c1 else undef))) (hw : ∃ og, ops[13]? = some og ∧ og.dst = some 75) (f9 : 9 ∉ DS) (b9 : ∀ base, B base → base[9]? = some (.pointer (some ⟨gx, 0, none⟩))) : StepOK Try.prog ops W B DS PS o 76 (fun _ v => v = (if (!q && c1) = true then .pointer (some ⟨gx, 0, none⟩) else undef)) := by
 intro Q base ac w hB hbel hsz hn hfar
 obtain ⟨dst, op, ty, pos, after, guard⟩ := o
 simp only at hop hd hg
 subst hop hd hg
 refine ⟨rfl, ?_⟩
 have e9 := (hfar 9 f9).trans (b9 base hB)
 obtain ⟨v13, e13, rfl⟩ := hn 13 n13 _ _ d13 p13
 clear hn hfar b9
 obtain ⟨og, hog, hod⟩ := hw
 cases q <;> cases c1 <;> ((try simp only [Bool.not_false, Bool.not_true, Bool.true_and, Bool.false_and, Bool.and_true, Bool.and_false, Bool.false_eq_true, Bool.true_eq_false, reduceIte] at e13); (first | (rw [if_neg (by rw [want_off rfl hog hod e13 (by decide)]; decide)]; first | rfl | simp) | (rw [if_neg (by rw [want_undef rfl hog hod e13]; decide)]; first | rfl | simp) | (rw [if_pos (want_on rfl hog hod e13)]; go_simp; exact ⟨_, rfl, (by first | with_reducible rfl | (rw [i64_w]) | (rw [Go.IntKind.wrap_i64]; rfl) | rfl), Below.refl _ _⟩)))
theorem ar10_s15 (hop : o.op = .fieldAddr 26 (.tmp 76) 0) (hd : o.dst = some 77) (hg : o.guard = some (13, true)) (n14 : 14 ∈ needsOf .any o) (d14 : DS[14]? = some 76) (p14 : PS[14]? = some (fun _ v => v = (if (!q && c1) = true then .pointer (some ⟨gx, 0, none⟩) else undef))) (n13 : 13 ∈ needsOf .any o) (d13 : DS[13]? = some 75) (p13 : PS[13]? = some (fun _ v => v = (if (!q) = true then .bool c1 else undef))) (hw : ∃ og, ops[13]? = some og ∧ og.dst = some 75) : StepOK Try.prog ops W B DS PS o 77 (fun _ v => v = (if (!q && c1) = true then .pointer (some ⟨gx, 0, none⟩) else undef)) := by
 intro Q base ac w hB hbel hsz hn hfar
 obtain ⟨dst, op, ty, pos, after, guard⟩ := o
 simp only at hop hd hg
 subst hop hd hg
 refine ⟨rfl, ?_⟩
 obtain ⟨v14, e14, rfl⟩ := hn 14 n14 _ _ d14 p14
 obtain ⟨v13, e13, rfl⟩ := hn 13 n13 _ _ d13 p13
 clear hn hfar
 obtain ⟨og, hog, hod⟩ := hw
 cases q <;> cases c1 <;> ((try simp only [Bool.not_false, Bool.not_true, Bool.true_and, Bool.false_and, Bool.and_true, Bool.and_false, Bool.false_eq_true, Bool.true_eq_false, reduceIte] at e14 e13); (first | (rw [if_neg (by rw [want_off rfl hog hod e13 (by decide)]; decide)]; first | rfl | simp) | (rw [if_neg (by rw [want_undef rfl hog hod e13]; decide)]; first | rfl | simp) | (rw [if_pos (want_on rfl hog hod e13)]; go_simp; exact ⟨_, rfl, (by first | with_reducible rfl | (rw [i64_w]) | (rw [Go.IntKind.wrap_i64]; rfl) | rfl), Below.refl _ _⟩)))
theorem ar10_s16 (hop : o.op = .load 3 (.tmp 77)) (hd : o.dst = some 78) (hg : o.guard = some (13, true)) (n15 : 15 ∈ needsOf .any o) (d15 : DS[15]? = some 77) (p15 : PS[15]? = some (fun _ v => v = (if (!q && c1) = true then .pointer (some ⟨gx, 0, none⟩) else undef))) (n13 : 13 ∈ needsOf .any o) (d13 : DS[13]? = some 75) (p13 : PS[13]? = some (fun _ v => v = (if (!q) = true then .bool c1 else undef))) (hw : ∃ og, ops[13]? = some og ∧ og.dst = some 75) (kx_0 : W.cell? ⟨gx, 0, none⟩ = some (.int .i64 a.f0)) : StepOK Try.prog ops W B DS PS o 78 (fun _ v => v = (if (!q && c1) = true then .int .i64 a.f0 else undef)) := by
 intro Q base ac w hB hbel hsz hn hfar
 obtain ⟨dst, op, ty, pos, after, guard⟩ := o
 simp only at hop hd hg
 subst hop hd hg
 refine ⟨rfl, ?_⟩
 obtain ⟨v15, e15, rfl⟩ := hn 15 n15 _ _ d15 p15
 obtain ⟨v13, e13, rfl⟩ := hn 13 n13 _ _ d13 p13
 have ckx_0 := pw_cell_below hbel kx_0
 clear hn hfar
 obtain ⟨og, hog, hod⟩ := hw
 cases q <;> cases c1 <;> ((try simp only [Bool.not_false, Bool.not_true, Bool.true_and, Bool.false_and, Bool.and_true, Bool.and_false, Bool.false_eq_true, Bool.true_eq_false, reduceIte] at e15 e13); (first | (rw [if_neg (by rw [want_off rfl hog hod e13 (by decide)]; decide)]; first | rfl | simp) | (rw [if_neg (by rw [want_undef rfl hog hod e13]; decide)]; first | rfl | simp) | (rw [if_pos (want_on rfl hog hod e13)]; go_simp; exact ⟨_, rfl, (by first | with_reducible rfl | (rw [i64_w]) | (rw [Go.IntKind.wrap_i64]; rfl) | rfl), Below.refl _ _⟩)))
theorem ar10_s17 (hop : o.op = .fieldAddr 53 (.tmp 9) 1) (hd : o.dst = some 79) (hg : o.guard = some (13, true)) (n13 : 13 ∈ needsOf .any o) (d13 : DS[13]? = some 75) (p13 : PS[13]? = some (fun _ v => v = (if (!q) = true then .bool c1 else undef))) (hw : ∃ og, ops[13]? = some og ∧ og.dst = some 75) (f9 : 9 ∉ DS) (b9 : ∀ base, B base → base[9]? = some (.pointer (some ⟨gx, 0, none⟩))) : StepOK Try.prog ops W B DS PS o 79 (fun _ v => v = (if (!q && c1) = true then .pointer (some ⟨gx, 2, none⟩) else undef)) := by
 intro Q base ac w hB hbel hsz hn hfar
 obtain ⟨dst, op, ty, pos, after, guard⟩ := o
 simp only at hop hd hg
 subst hop hd hg
 refine ⟨rfl, ?_⟩
 have e9 := (hfar 9 f9).trans (b9 base hB)
 obtain ⟨v13, e13, rfl⟩ := hn 13 n13 _ _ d13 p13
 clear hn hfar b9
 obtain ⟨og, hog, hod⟩ := hw
 cases q <;> cases c1 <;> ((try simp only [Bool.not_false, Bool.not_true, Bool.true_and, Bool.false_and, Bool.and_true, Bool.and_false, Bool.false_eq_true, Bool.true_eq_false, reduceIte] at e13); (first | (rw [if_neg (by rw [want_off rfl hog hod e13 (by decide)]; decide)]; first | rfl | simp) | (rw [if_neg (by rw [want_undef rfl hog hod e13]; decide)]; first | rfl | simp) | (rw [if_pos (want_on rfl hog hod e13)]; go_simp; exact ⟨_, rfl, (by first | with_reducible rfl | (rw [i64_w]) | (rw [Go.IntKind.wrap_i64]; rfl) | rfl), Below.refl _ _⟩)))
theorem ar10_s18 (hop : o.op = .fieldAddr 26 (.tmp 79) 0) (hd : o.dst = some 80) (hg : o.guard = some (13, true)) (n17 : 17 ∈ needsOf .any o) (d17 : DS[17]? = some 79) (p17 : PS[17]? = some (fun _ v => v = (if (!q && c1) = true then .pointer (some ⟨gx, 2, none⟩) else undef))) (n13 : 13 ∈ needsOf .any o) (d13 : DS[13]? = some 75) (p13 : PS[13]? = some (fun _ v => v = (if (!q) = true then .bool c1 else undef))) (hw : ∃ og, ops[13]? = some og ∧ og.dst = some 75) : StepOK Try.prog ops W B DS PS o 80 (fun _ v => v = (if (!q && c1) = true then .pointer (some ⟨gx, 2, none⟩) else undef)) := by
 intro Q base ac w hB hbel hsz hn hfar
 obtain ⟨dst, op, ty, pos, after, guard⟩ := o
 simp only at hop hd hg
 subst hop hd hg
 refine ⟨rfl, ?_⟩
 obtain ⟨v17, e17, rfl⟩ := hn 17 n17 _ _ d17 p17
 obtain ⟨v13, e13, rfl⟩ := hn 13 n13 _ _ d13 p13
 clear hn hfar
 obtain ⟨og, hog, hod⟩ := hw
 cases q <;> cases c1 <;> ((try simp only [Bool.not_false, Bool.not_true, Bool.true_and, Bool.false_and, Bool.and_true, Bool.and_false, Bool.false_eq_true, Bool.true_eq_false, reduceIte] at e17 e13); (first | (rw [if_neg (by rw [want_off rfl hog hod e13 (by decide)]; decide)]; first | rfl | simp) | (rw [if_neg (by rw [want_undef rfl hog hod e13]; decide)]; first | rfl | simp) | (rw [if_pos (want_on rfl hog hod e13)]; go_simp; exact ⟨_, rfl, (by first | with_reducible rfl | (rw [i64_w]) | (rw [Go.IntKind.wrap_i64]; rfl) | rfl), Below.refl _ _⟩)))
theorem ar10_s19 (hop : o.op = .load 3 (.tmp 80)) (hd : o.dst = some 81) (hg : o.guard = some (13, true)) (n18 : 18 ∈ needsOf .any o) (d18 : DS[18]? = some 80) (p18 : PS[18]? = some (fun _ v => v = (if (!q && c1) = true then .pointer (some ⟨gx, 2, none⟩) else undef))) (n13 : 13 ∈ needsOf .any o) (d13 : DS[13]? = some 75) (p13 : PS[13]? = some (fun _ v => v = (if (!q) = true then .bool c1 else undef))) (hw : ∃ og, ops[13]? = some og ∧ og.dst = some 75) (kx_2 : W.cell? ⟨gx, 2, none⟩ = some (.int .i64 b.f0)) : StepOK Try.prog ops W B DS PS o 81 (fun _ v => v = (if (!q && c1) = true then .int .i64 b.f0 else undef)) := by
 intro Q base ac w hB hbel hsz hn hfar
 obtain ⟨dst, op, ty, pos, after, guard⟩ := o
 simp only at hop hd hg
 subst hop hd hg
 refine ⟨rfl, ?_⟩
 obtain ⟨v18, e18, rfl⟩ := hn 18 n18 _ _ d18 p18
 obtain ⟨v13, e13, rfl⟩ := hn 13 n13 _ _ d13 p13
 have ckx_2 := pw_cell_below hbel kx_2
 clear hn hfar
 obtain ⟨og, hog, hod⟩ := hw
 cases q <;> cases c1 <;> ((try simp only [Bool.not_false, Bool.not_true, Bool.true_and, Bool.false_and, Bool.and_true, Bool.and_false, Bool.false_eq_true, Bool.true_eq_false, reduceIte] at e18 e13); (first | (rw [if_neg (by rw [want_off rfl hog hod e13 (by decide)]; decide)]; first | rfl | simp) | (rw [if_neg (by rw [want_undef rfl hog hod e13]; decide)]; first | rfl | simp) | (rw [if_pos (want_on rfl hog hod e13)]; go_simp; exact ⟨_, rfl, (by first | with_reducible rfl | (rw [i64_w]) | (rw [Go.IntKind.wrap_i64]; rfl) | rfl), Below.refl _ _⟩)))
theorem ar10_s20 (hop : o.op = .call { callee := Go.Callee.builtin Go.Builtin.max, args := #[.tmp 78, .tmp 81], argTypes := #[3, 3] }) (hd : o.dst = some 82) (hg : o.guard = some (13, true)) (n16 : 16 ∈ needsOf .any o) (d16 : DS[16]? = some 78) (p16 : PS[16]? = some (fun _ v => v = (if (!q && c1) = true then .int .i64 a.f0 else undef))) (n19 : 19 ∈ needsOf .any o) (d19 : DS[19]? = some 81) (p19 : PS[19]? = some (fun _ v => v = (if (!q && c1) = true then .int .i64 b.f0 else undef))) (n13 : 13 ∈ needsOf .any o) (d13 : DS[13]? = some 75) (p13 : PS[13]? = some (fun _ v => v = (if (!q) = true then .bool c1 else undef))) (hw : ∃ og, ops[13]? = some og ∧ og.dst = some 75) : StepOK Try.prog ops W B DS PS o 82 (fun _ v => v = (if (!q && c1) = true then .int .i64 (mx a.f0 b.f0) else undef)) := by
 intro Q base ac w hB hbel hsz hn hfar
 obtain ⟨dst, op, ty, pos, after, guard⟩ := o
 simp only at hop hd hg
 subst hop hd hg
 refine ⟨rfl, ?_⟩
 obtain ⟨v16, e16, rfl⟩ := hn 16 n16 _ _ d16 p16
 obtain ⟨v19, e19, rfl⟩ := hn 19 n19 _ _ d19 p19
 obtain ⟨v13, e13, rfl⟩ := hn 13 n13 _ _ d13 p13
 clear hn hfar
 obtain ⟨og, hog, hod⟩ := hw
 cases q <;> cases c1 <;> ((try simp only [Bool.not_false, Bool.not_true, Bool.true_and, Bool.false_and, Bool.and_true, Bool.and_false, Bool.false_eq_true, Bool.true_eq_false, reduceIte] at e16 e19 e13); (first | (rw [if_neg (by rw [want_off rfl hog hod e13 (by decide)]; decide)]; first | rfl | simp) | (rw [if_neg (by rw [want_undef rfl hog hod e13]; decide)]; first | rfl | simp) | (rw [if_pos (want_on rfl hog hod e13)]; go_simp; exact ⟨_, rfl, (by first | with_reducible rfl | (rw [i64_w]) | (rw [Go.IntKind.wrap_i64]; rfl) | rfl), Below.refl _ _⟩)))
theorem ar10_s21 (hop : o.op = .call { callee := Go.Callee.value (.func 39), args := #[.tmp 82], argTypes := #[3] }) (hd : o.dst = some 83) (hg : o.guard = some (13, true)) (n20 : 20 ∈ needsOf .any o) (d20 : DS[20]? = some 82) (p20 : PS[20]? = some (fun _ v => v = (if (!q && c1) = true then .int .i64 (mx a.f0 b.f0) else undef))) (n13 : 13 ∈ needsOf .any o) (d13 : DS[13]? = some 75) (p13 : PS[13]? = some (fun _ v => v = (if (!q) = true then .bool c1 else undef))) (hw : ∃ og, ops[13]? = some og ∧ og.dst = some 75) (rM0 : -9223372036854775808 ≤ mx a.f0 b.f0) (rM1 : mx a.f0 b.f0 ≤ 9223372036854775807) : StepOK Try.prog ops W B DS PS o 83 (fun w v => (!q && c1) = true → FI w v (mx a.f0 b.f0)) := by
 intro Q base ac w hB hbel hsz hn hfar
 obtain ⟨dst, op, ty, pos, after, guard⟩ := o
 simp only at hop hd hg
 subst hop hd hg
 refine ⟨rfl, ?_⟩
 obtain ⟨v20, e20, rfl⟩ := hn 20 n20 _ _ d20 p20
 obtain ⟨v13, e13, rfl⟩ := hn 13 n13 _ _ d13 p13
 clear hn hfar
 obtain ⟨og, hog, hod⟩ := hw
 cases q <;> cases c1 <;> ((try simp only [Bool.not_false, Bool.not_true, Bool.true_and, Bool.false_and, Bool.and_true, Bool.and_false, Bool.false_eq_true, Bool.true_eq_false, reduceIte] at e20 e13); (first | (rw [if_neg (by rw [want_off rfl hog hod e13 (by decide)]; decide)]; exact fun h => absurd h (by decide)) | (rw [if_neg (by rw [want_undef rfl hog hod e13]; decide)]; exact fun h => absurd h (by decide)) | (rw [if_pos (want_on rfl hog hod e13)]; go_simp; go_at_call 39; refine (whole_calls (mx a.f0 b.f0) rM0 rM1 _).mono ?_; rintro e w2 ⟨r, rfl, hf, hb2⟩; exact ⟨_, rfl, (by first | exact hf | exact fun _ => hf), hb2⟩)))
theorem ar10_s22 (hop : o.op = .load 45 (.tmp 4)) (hd : o.dst = some 84) (hg : o.guard = some (13, true)) (n13 : 13 ∈ needsOf .any o) (d13 : DS[13]? = some 75) (p13 : PS[13]? = some (fun _ v => v = (if (!q) = true then .bool c1 else undef))) (hw : ∃ og, ops[13]? = some og ∧ og.dst = some 75) (f4 : 4 ∉ DS) (b4 : ∀ base, B base → base[4]? = some (.pointer (some ⟨gu, 0, none⟩))) (ku_0 : W.cell? ⟨gu, 0, none⟩ = some (.bool su)) (ku_1 : W.cell? ⟨gu, 1, none⟩ = some (.slice Au nu cu)) (ku_2 : W.cell? ⟨gu, 2, none⟩ = some (.bool tu)) (ku_3 : W.cell? ⟨gu, 3, none⟩ = some (.slice Bu mu du)) (kuF : FI W (.agg #[.bool su, .slice Au nu cu, .bool tu, .slice Bu mu du]) U) : StepOK Try.prog ops W B DS PS o 84 (fun w v => (!q && c1) = true → FI w v U) := by
 intro Q base ac w hB hbel hsz hn hfar
 obtain ⟨dst, op, ty, pos, after, guard⟩ := o
 simp only at hop hd hg
 subst hop hd hg
 refine ⟨rfl, ?_⟩
 have e4 := (hfar 4 f4).trans (b4 base hB)
 obtain ⟨v13, e13, rfl⟩ := hn 13 n13 _ _ d13 p13
 have cku_0 := pw_cell_below hbel ku_0
 have cku_1 := pw_cell_below hbel ku_1
 have cku_2 := pw_cell_below hbel ku_2
 have cku_3 := pw_cell_below hbel ku_3
 clear hn hfar b4
 obtain ⟨og, hog, hod⟩ := hw
 cases q <;> cases c1 <;> ((try simp only [Bool.not_false, Bool.not_true, Bool.true_and, Bool.false_and, Bool.and_true, Bool.and_false, Bool.false_eq_true, Bool.true_eq_false, reduceIte] at e13); (first | (rw [if_neg (by rw [want_off rfl hog hod e13 (by decide)]; decide)]; exact fun h => absurd h (by decide)) | (rw [if_neg (by rw [want_undef rfl hog hod e13]; decide)]; exact fun h => absurd h (by decide)) | (rw [if_pos (want_on rfl hog hod e13)]; go_simp; exact ⟨_, rfl, (by first | exact FI.below kuF hbel | exact fun _ => FI.below kuF hbel), Below.refl _ _⟩)))
theorem ar10_s23 (hop : o.op = .call { callee := Go.Callee.value (.func 51), args := #[.tmp 83, .tmp 84], argTypes := #[45, 45] }) (hd : o.dst = some 85) (hg : o.guard = some (13, true)) (n21 : 21 ∈ needsOf .any o) (d21 : DS[21]? = some 83) (p21 : PS[21]? = some (fun w v => (!q && c1) = true → FI w v (mx a.f0 b.f0))) (n22 : 22 ∈ needsOf .any o) (d22 : DS[22]? = some 84) (p22 : PS[22]? = some (fun w v => (!q && c1) = true → FI w v U)) (n13 : 13 ∈ needsOf .any o) (d13 : DS[13]? = some 75) (p13 : PS[13]? = some (fun _ v => v = (if (!q) = true then .bool c1 else undef))) (hw : ∃ og, ops[13]? = some og ∧ og.dst = some 75) (fM : Fit (mx a.f0 b.f0)) (fU : Fit U) : StepOK Try.prog ops W B DS PS o 85 (fun _ v => v = (if (!q && c1) = true then .int .i64 (cmp3 (mx a.f0 b.f0) U) else undef)) := by
 intro Q base ac w hB hbel hsz hn hfar
 obtain ⟨dst, op, ty, pos, after, guard⟩ := o
 simp only at hop hd hg
 subst hop hd hg
 refine ⟨rfl, ?_⟩
 obtain ⟨v21, e21, h21⟩ := hn 21 n21 _ _ d21 p21
 obtain ⟨v22, e22, h22⟩ := hn 22 n22 _ _ d22 p22
 obtain ⟨v13, e13, rfl⟩ := hn 13 n13 _ _ d13 p13
 clear hn hfar
 obtain ⟨og, hog, hod⟩ := hw
 cases q <;> cases c1 <;> ((try simp only [Bool.not_false, Bool.not_true, Bool.true_and, Bool.false_and, Bool.and_true, Bool.and_false, Bool.false_eq_true, Bool.true_eq_false, reduceIte] at e21 e22 e13); (first | (rw [if_neg (by rw [want_off rfl hog hod e13 (by decide)]; decide)]; first | rfl | simp) | (rw [if_neg (by rw [want_undef rfl hog hod e13]; decide)]; first | rfl | simp) | (rw [if_pos (want_on rfl hog hod e13)]; go_simp; go_at_call 51; refine (fcmp_calls _ _ (mx a.f0 b.f0) U _ (h21 rfl) (h22 rfl) fM fU).mono ?_; rintro e w2 ⟨rfl, hb2⟩; exact ⟨_, rfl, rfl, hb2⟩)))
theorem ar10_s24 (hop : o.op = .binOp Go.BinOp.geq 3 (.tmp 85) (.const (.int .i64 0)) 3) (hd : o.dst = some 86) (hg : o.guard = some (13, true)) (n23 : 23 ∈ needsOf .any o) (d23 : DS[23]? = some 85) (p23 : PS[23]? = some (fun _ v => v = (if (!q && c1) = true then .int .i64 (cmp3 (mx a.f0 b.f0) U) else undef))) (n13 : 13 ∈ needsOf .any o) (d13 : DS[13]? = some 75) (p13 : PS[13]? = some (fun _ v => v = (if (!q) = true then .bool c1 else undef))) (hw : ∃ og, ops[13]? = some og ∧ og.dst = some 75) (ec2 : c2 = decide (cmp3 (mx a.f0 b.f0) U ≥ 0)) : StepOK Try.prog ops W B DS PS o 86 (fun _ v => v = (if (!q && c1) = true then .bool c2 else undef)) := by
 intro Q base ac w hB hbel hsz hn hfar
 obtain ⟨dst, op, ty, pos, after, guard⟩ := o
 simp only at hop hd hg
 subst hop hd hg
 refine ⟨rfl, ?_⟩
 obtain ⟨v23, e23, rfl⟩ := hn 23 n23 _ _ d23 p23
 obtain ⟨v13, e13, rfl⟩ := hn 13 n13 _ _ d13 p13
 clear hn hfar
 subst ec2
 obtain ⟨og, hog, hod⟩ := hw
 cases q <;> cases c1 <;> ((try simp only [Bool.not_false, Bool.not_true, Bool.true_and, Bool.false_and, Bool.and_true, Bool.and_false, Bool.false_eq_true, Bool.true_eq_false, reduceIte] at e23 e13); (first | (rw [if_neg (by rw [want_off rfl hog hod e13 (by decide)]; decide)]; first | rfl | simp) | (rw [if_neg (by rw [want_undef rfl hog hod e13]; decide)]; first | rfl | simp) | (rw [if_pos (want_on rfl hog hod e13)]; go_simp; exact ⟨_, rfl, (by first | with_reducible rfl | (rw [i64_w]) | (rw [Go.IntKind.wrap_i64]; rfl) | rfl), Below.refl _ _⟩)))
theorem ar10_s25 (hop : o.op = .pick (.tmp 75) (.tmp 86) (.const (.bool false))) (hd : o.dst = some 87) (hg : o.guard = some (1, false)) (n13 : 13 ∈ needsOf .any o) (d13 : DS[13]? = some 75) (p13 : PS[13]? = some (fun _ v => v = (if (!q) = true then .bool c1 else undef))) (n24 : 24 ∈ needsOf .any o) (d24 : DS[24]? = some 86) (p24 : PS[24]? = some (fun _ v => v = (if (!q && c1) = true then .bool c2 else undef))) (n1 : 1 ∈ needsOf .any o) (d1 : DS[1]? = some 63) (p1 : PS[1]? = some (fun _ v => v = .bool q)) (hw : ∃ og, ops[1]? = some og ∧ og.dst = some 63) : StepOK Try.prog ops W B DS PS o 87 (fun _ v => v = (if (!q) = true then .bool (c1 && c2) else undef)) := by
 intro Q base ac w hB hbel hsz hn hfar
 obtain ⟨dst, op, ty, pos, after, guard⟩ := o
 simp only at hop hd hg
 subst hop hd hg
 refine ⟨rfl, ?_⟩
 obtain ⟨v13, e13, rfl⟩ := hn 13 n13 _ _ d13 p13
 obtain ⟨v24, e24, rfl⟩ := hn 24 n24 _ _ d24 p24
 obtain ⟨v1, e1, rfl⟩ := hn 1 n1 _ _ d1 p1
 clear hn hfar
 obtain ⟨og, hog, hod⟩ := hw
 cases q <;> cases c1 <;> ((try simp only [Bool.not_false, Bool.not_true, Bool.true_and, Bool.false_and, Bool.and_true, Bool.and_false, Bool.false_eq_true, Bool.true_eq_false, reduceIte] at e13 e24 e1); (first | (rw [if_neg (by rw [want_off rfl hog hod e1 (by decide)]; decide)]; first | rfl | simp) | (rw [if_neg (by rw [want_undef rfl hog hod e1]; decide)]; first | rfl | simp) | (rw [if_pos (want_on rfl hog hod e1)]; go_simp; exact ⟨_, rfl, (by first | with_reducible rfl | (rw [i64_w]) | (rw [Go.IntKind.wrap_i64]; rfl) | rfl), Below.refl _ _⟩)))
theorem ar10_s26 (hop : o.op = .pick (.tmp 63) (.const (.bool true)) (.tmp 87)) (hd : o.dst = some 88) (hg : o.guard = none) (n1 : 1 ∈ needsOf .any o) (d1 : DS[1]? = some 63) (p1 : PS[1]? = some (fun _ v => v = .bool q)) (n25 : 25 ∈ needsOf .any o) (d25 : DS[25]? = some 87) (p25 : PS[25]? = some (fun _ v => v = (if (!q) = true then .bool (c1 && c2) else undef))) : StepOK Try.prog ops W B DS PS o 88 (fun _ v => v = .bool (q || (c1 && c2))) := by
 intro Q base ac w hB hbel hsz hn hfar
 obtain ⟨dst, op, ty, pos, after, guard⟩ := o
 simp only at hop hd hg
 subst hop hd hg
 refine ⟨rfl, ?_⟩
 obtain ⟨v1, e1, rfl⟩ := hn 1 n1 _ _ d1 p1
 obtain ⟨v25, e25, rfl⟩ := hn 25 n25 _ _ d25 p25
 clear hn hfar
 cases q <;> ((try simp only [Bool.not_false, Bool.not_true, Bool.true_and, Bool.false_and, Bool.and_true, Bool.and_false, Bool.false_eq_true, Bool.true_eq_false, reduceIte] at e1 e25); go_simp; exact ⟨_, rfl, (by first | with_reducible rfl | (rw [i64_w]) | (rw [Go.IntKind.wrap_i64]; rfl) | rfl), Below.refl _ _⟩)
end
end Go.Proofs.Ytjmkccabpnigiaa.P
