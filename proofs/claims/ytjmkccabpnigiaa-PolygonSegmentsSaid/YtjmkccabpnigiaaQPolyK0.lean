import Derived.Test.YtjmkccabpnigiaaQPolyT
import Derived.Test.YtjmkccabpnigiaaQGivenZd
import Derived.Test.YtjmkccabpnigiaaQGivenU
import Derived.Test.YtjmkccabpnigiaaQGivenX
namespace Go.Proofs.Ytjmkccabpnigiaa.P
open Go.RowKit Go.Proofs.YtjmkccabpnigiaaW.PrintWords Go.Proofs.YtjmkccabpnigiaaW.PrintLast Go.Proofs.YtjmkccabpnigiaaW.PrintMore
attribute [local go_sem] max2_int min2_int max_two min_two max_three min_three max_four min_four
set_option linter.unusedVariables false
set_option linter.unusedSimpArgs false
set_option maxHeartbeats 1000000
set_option maxRecDepth 100000
section
variable {a b : S26} {g3 : Nat} {W : World} {B : Array Value → Prop} {DS : List Nat} {PS : List (World → Value → Prop)} {ops : Array Oper} {o : Oper}
theorem sd1_s0 (hop : o.op = .fieldAddr 53 (.tmp 3) 0) (hd : o.dst = some 17) (hg : o.guard = none) (f3 : 3 ∉ DS) (b3 : ∀ base, B base → base[3]? = some (.pointer (some ⟨g3, 0, none⟩))) : StepOKb Try.prog ops W B DS PS o 17 (fun _ v => v = .pointer (some ⟨g3, 0, none⟩)) := by
 intro Q base ac w hB hbel hsz hn hfar
 obtain ⟨dst, op, ty, pos, after, guard⟩ := o
 simp only at hop hd hg
 subst hop hd hg
 refine ⟨rfl, ?_⟩
 have e3 := (hfar 3 f3).trans (b3 base hB)
 clear hn hfar b3
 go_simp
 exact ⟨_, rfl, (by first | with_reducible rfl | (rw [i64_w]) | (rw [Go.IntKind.wrap_i64]; rfl) | rfl), Below.refl _ _⟩
theorem sd1_s1 (hop : o.op = .load 26 (.tmp 17)) (hd : o.dst = some 18) (hg : o.guard = none) (n0 : 0 ∈ needsOf .any o) (d0 : DS[0]? = some 17) (p0 : PS[0]? = some (fun _ v => v = .pointer (some ⟨g3, 0, none⟩))) (k3_0 : W.cell? ⟨g3, 0, none⟩ = some (.int .i64 a.f0)) (k3_1 : W.cell? ⟨g3, 1, none⟩ = some (.int .i64 a.f1)) : StepOKb Try.prog ops W B DS PS o 18 (fun _ v => v = .agg #[.int .i64 a.f0, .int .i64 a.f1]) := by
 intro Q base ac w hB hbel hsz hn hfar
 obtain ⟨dst, op, ty, pos, after, guard⟩ := o
 simp only at hop hd hg
 subst hop hd hg
 refine ⟨rfl, ?_⟩
 obtain ⟨v0, e0, rfl⟩ := hn 0 n0 _ _ d0 p0 (by decide)
 have ck3_0 := pw_cell_below hbel k3_0
 have ck3_1 := pw_cell_below hbel k3_1
 clear hn hfar
 go_simp
 exact ⟨_, rfl, (by first | with_reducible rfl | (rw [i64_w]) | (rw [Go.IntKind.wrap_i64]; rfl) | rfl), Below.refl _ _⟩
theorem sd1_s2 (hop : o.op = .fieldAddr 53 (.tmp 3) 1) (hd : o.dst = some 19) (hg : o.guard = none) (f3 : 3 ∉ DS) (b3 : ∀ base, B base → base[3]? = some (.pointer (some ⟨g3, 0, none⟩))) : StepOKb Try.prog ops W B DS PS o 19 (fun _ v => v = .pointer (some ⟨g3, 2, none⟩)) := by
 intro Q base ac w hB hbel hsz hn hfar
 obtain ⟨dst, op, ty, pos, after, guard⟩ := o
 simp only at hop hd hg
 subst hop hd hg
 refine ⟨rfl, ?_⟩
 have e3 := (hfar 3 f3).trans (b3 base hB)
 clear hn hfar b3
 go_simp
 exact ⟨_, rfl, (by first | with_reducible rfl | (rw [i64_w]) | (rw [Go.IntKind.wrap_i64]; rfl) | rfl), Below.refl _ _⟩
theorem sd1_s3 (hop : o.op = .load 26 (.tmp 19)) (hd : o.dst = some 20) (hg : o.guard = none) (n2 : 2 ∈ needsOf .any o) (d2 : DS[2]? = some 19) (p2 : PS[2]? = some (fun _ v => v = .pointer (some ⟨g3, 2, none⟩))) (k3_2 : W.cell? ⟨g3, 2, none⟩ = some (.int .i64 b.f0)) (k3_3 : W.cell? ⟨g3, 3, none⟩ = some (.int .i64 b.f1)) : StepOKb Try.prog ops W B DS PS o 20 (fun _ v => v = .agg #[.int .i64 b.f0, .int .i64 b.f1]) := by
 intro Q base ac w hB hbel hsz hn hfar
 obtain ⟨dst, op, ty, pos, after, guard⟩ := o
 simp only at hop hd hg
 subst hop hd hg
 refine ⟨rfl, ?_⟩
 obtain ⟨v2, e2, rfl⟩ := hn 2 n2 _ _ d2 p2 (by decide)
 have ck3_2 := pw_cell_below hbel k3_2
 have ck3_3 := pw_cell_below hbel k3_3
 clear hn hfar
 go_simp
 exact ⟨_, rfl, (by first | with_reducible rfl | (rw [i64_w]) | (rw [Go.IntKind.wrap_i64]; rfl) | rfl), Below.refl _ _⟩
end
section
variable {x y : Int} {g7 gu : Nat} {su tu : Bool} {Au Bu : Option Addr} {nu cu mu du : Nat} {W : World} {B : Array Value → Prop} {DS : List Nat} {PS : List (World → Value → Prop)} {ops : Array Oper} {o : Oper}
theorem sd4_s0 (hop : o.op = .load 45 (.tmp 5)) (hd : o.dst = some 29) (hg : o.guard = none) (f5 : 5 ∉ DS) (b5 : ∀ base, B base → base[5]? = some (.pointer (some ⟨gu, 0, none⟩))) (ku_0 : W.cell? ⟨gu, 0, none⟩ = some (.bool su)) (ku_1 : W.cell? ⟨gu, 1, none⟩ = some (.slice Au nu cu)) (ku_2 : W.cell? ⟨gu, 2, none⟩ = some (.bool tu)) (ku_3 : W.cell? ⟨gu, 3, none⟩ = some (.slice Bu mu du)) (kuF : FI W (.agg #[.bool su, .slice Au nu cu, .bool tu, .slice Bu mu du]) x) : StepOKb Try.prog ops W B DS PS o 29 (fun w v => FI w v x) := by
 intro Q base ac w hB hbel hsz hn hfar
 obtain ⟨dst, op, ty, pos, after, guard⟩ := o
 simp only at hop hd hg
 subst hop hd hg
 refine ⟨rfl, ?_⟩
 have e5 := (hfar 5 f5).trans (b5 base hB)
 have cku_0 := pw_cell_below hbel ku_0
 have cku_1 := pw_cell_below hbel ku_1
 have cku_2 := pw_cell_below hbel ku_2
 have cku_3 := pw_cell_below hbel ku_3
 clear hn hfar b5
 go_simp
 exact ⟨_, rfl, (FI.below kuF hbel), Below.refl _ _⟩
theorem sd4_s1 (hop : o.op = .fieldAddr 26 (.tmp 7) 1) (hd : o.dst = some 30) (hg : o.guard = none) (f7 : 7 ∉ DS) (b7 : ∀ base, B base → base[7]? = some (.pointer (some ⟨g7, 0, none⟩))) : StepOKb Try.prog ops W B DS PS o 30 (fun _ v => v = .pointer (some ⟨g7, 1, none⟩)) := by
 intro Q base ac w hB hbel hsz hn hfar
 obtain ⟨dst, op, ty, pos, after, guard⟩ := o
 simp only at hop hd hg
 subst hop hd hg
 refine ⟨rfl, ?_⟩
 have e7 := (hfar 7 f7).trans (b7 base hB)
 clear hn hfar b7
 go_simp
 exact ⟨_, rfl, (by first | with_reducible rfl | (rw [i64_w]) | (rw [Go.IntKind.wrap_i64]; rfl) | rfl), Below.refl _ _⟩
theorem sd4_s2 (hop : o.op = .load 3 (.tmp 30)) (hd : o.dst = some 31) (hg : o.guard = none) (n1 : 1 ∈ needsOf .any o) (d1 : DS[1]? = some 30) (p1 : PS[1]? = some (fun _ v => v = .pointer (some ⟨g7, 1, none⟩))) (ky : W.cell? ⟨g7, 1, none⟩ = some (.int .i64 y)) : StepOKb Try.prog ops W B DS PS o 31 (fun _ v => v = .int .i64 y) := by
 intro Q base ac w hB hbel hsz hn hfar
 obtain ⟨dst, op, ty, pos, after, guard⟩ := o
 simp only at hop hd hg
 subst hop hd hg
 refine ⟨rfl, ?_⟩
 obtain ⟨v1, e1, rfl⟩ := hn 1 n1 _ _ d1 p1 (by decide)
 have cky := pw_cell_below hbel ky
 clear hn hfar
 go_simp
 exact ⟨_, rfl, (by first | with_reducible rfl | (rw [i64_w]) | (rw [Go.IntKind.wrap_i64]; rfl) | rfl), Below.refl _ _⟩
theorem sd4_s3 (hop : o.op = .call { callee := Go.Callee.value (.func 39), args := #[.tmp 31], argTypes := #[3] }) (hd : o.dst = some 32) (hg : o.guard = none) (n2 : 2 ∈ needsOf .any o) (d2 : DS[2]? = some 31) (p2 : PS[2]? = some (fun _ v => v = .int .i64 y)) (hb0 : -9223372036854775808 ≤ y) (hb1 : y ≤ 9223372036854775807) : StepOKb Try.prog ops W B DS PS o 32 (fun w v => FI w v y) := by
 intro Q base ac w hB hbel hsz hn hfar
 obtain ⟨dst, op, ty, pos, after, guard⟩ := o
 simp only at hop hd hg
 subst hop hd hg
 refine ⟨rfl, ?_⟩
 obtain ⟨v2, e2, rfl⟩ := hn 2 n2 _ _ d2 p2 (by decide)
 clear hn hfar
 go_simp
 go_at_call 39
 refine (whole_calls y hb0 hb1 _).mono ?_
 rintro e w2 ⟨r, rfl, hf, hb2⟩
 exact ⟨_, rfl, hf, hb2⟩
theorem sd4_s4 (hop : o.op = .call { callee := Go.Callee.value (.func 65), args := #[.tmp 29, .tmp 32], argTypes := #[45, 45] }) (hd : o.dst = some 33) (hg : o.guard = none) (n0 : 0 ∈ needsOf .any o) (d0 : DS[0]? = some 29) (p0 : PS[0]? = some (fun w v => FI w v x)) (n3 : 3 ∈ needsOf .any o) (d3 : DS[3]? = some 32) (p3 : PS[3]? = some (fun w v => FI w v y)) (hfx : Fit x) (hfy : Fit y) (hfz : Fit (x - y)) : StepOKb Try.prog ops W B DS PS o 33 (fun w v => ∃ r, v = .tuple #[r, .int .i64 0] ∧ FI w r (x - y)) := by
 intro Q base ac w hB hbel hsz hn hfar
 obtain ⟨dst, op, ty, pos, after, guard⟩ := o
 simp only at hop hd hg
 subst hop hd hg
 refine ⟨rfl, ?_⟩
 obtain ⟨v0, e0, h0⟩ := hn 0 n0 _ _ d0 p0 (by decide)
 obtain ⟨v3, e3, h3⟩ := hn 3 n3 _ _ d3 p3 (by decide)
 clear hn hfar
 go_simp
 go_at_call 65
 refine (fsub_calls _ _ x y _ h0 h3 hfx hfy hfz).mono ?_
 rintro e w2 ⟨r, rfl, hf, hb2⟩
 exact ⟨_, rfl, ⟨r, rfl, hf⟩, hb2⟩
theorem sd4_s5 (hop : o.op = .move (.tmp 33)) (hd : o.dst = some 28) (hg : o.guard = none) (n4 : 4 ∈ needsOf .any o) (d4 : DS[4]? = some 33) (p4 : PS[4]? = some (fun w v => ∃ r, v = .tuple #[r, .int .i64 0] ∧ FI w r (x - y))) : StepOKb Try.prog ops W B DS PS o 28 (fun w v => ∃ r, v = .tuple #[r, .int .i64 0] ∧ FI w r (x - y)) := by
 intro Q base ac w hB hbel hsz hn hfar
 obtain ⟨dst, op, ty, pos, after, guard⟩ := o
 simp only at hop hd hg
 subst hop hd hg
 refine ⟨rfl, ?_⟩
 obtain ⟨v4, e4, h4⟩ := hn 4 n4 _ _ d4 p4 (by decide)
 clear hn hfar
 go_simp
 exact ⟨_, rfl, h4, Below.refl _ _⟩
theorem sd4_s6 (hop : o.op = .extract (.tmp 28) 0) (hd : o.dst = some 34) (hg : o.guard = none) (n5 : 5 ∈ needsOf .any o) (d5 : DS[5]? = some 28) (p5 : PS[5]? = some (fun w v => ∃ r, v = .tuple #[r, .int .i64 0] ∧ FI w r (x - y))) : StepOKb Try.prog ops W B DS PS o 34 (fun w v => FI w v (x - y)) := by
 intro Q base ac w hB hbel hsz hn hfar
 obtain ⟨dst, op, ty, pos, after, guard⟩ := o
 simp only at hop hd hg
 subst hop hd hg
 refine ⟨rfl, ?_⟩
 obtain ⟨v5, e5, h5⟩ := hn 5 n5 _ _ d5 p5 (by decide)
 clear hn hfar
 obtain ⟨r, rfl, h5⟩ := h5
 go_simp
 exact ⟨_, rfl, h5, Below.refl _ _⟩
theorem sd4_s7 (hop : o.op = .extract (.tmp 28) 1) (hd : o.dst = some 35) (hg : o.guard = none) (n5 : 5 ∈ needsOf .any o) (d5 : DS[5]? = some 28) (p5 : PS[5]? = some (fun w v => ∃ r, v = .tuple #[r, .int .i64 0] ∧ FI w r (x - y))) : StepOKb Try.prog ops W B DS PS o 35 (fun _ v => v = .int .i64 0) := by
 intro Q base ac w hB hbel hsz hn hfar
 obtain ⟨dst, op, ty, pos, after, guard⟩ := o
 simp only at hop hd hg
 subst hop hd hg
 refine ⟨rfl, ?_⟩
 obtain ⟨v5, e5, h5⟩ := hn 5 n5 _ _ d5 p5 (by decide)
 clear hn hfar
 obtain ⟨r, rfl, h5⟩ := h5
 go_simp
 exact ⟨_, rfl, (by first | with_reducible rfl | (rw [i64_w]) | (rw [Go.IntKind.wrap_i64]; rfl) | rfl), Below.refl _ _⟩
theorem sd4_s10 (hop : o.op = .assign (.tmp 35)) (hd : o.dst = some 10) (hg : o.guard = none) (n7 : 7 ∈ needsOf .any o) (d7 : DS[7]? = some 35) (p7 : PS[7]? = some (fun _ v => v = .int .i64 0)) : StepOKb Try.prog ops W B DS PS o 10 (fun _ v => v = .int .i64 0) := by
 intro Q base ac w hB hbel hsz hn hfar
 obtain ⟨dst, op, ty, pos, after, guard⟩ := o
 simp only at hop hd hg
 subst hop hd hg
 refine ⟨rfl, ?_⟩
 obtain ⟨v7, e7, rfl⟩ := hn 7 n7 _ _ d7 p7 (by decide)
 clear hn hfar
 go_simp
 exact ⟨_, rfl, (by first | with_reducible rfl | (rw [i64_w]) | (rw [Go.IntKind.wrap_i64]; rfl) | rfl), Below.refl _ _⟩
end
section
variable {x y : Int} {g7 gu : Nat} {su tu : Bool} {Au Bu : Option Addr} {nu cu mu du : Nat} {W : World} {B : Array Value → Prop} {DS : List Nat} {PS : List (World → Value → Prop)} {ops : Array Oper} {o : Oper}
theorem sd5_s0 (hop : o.op = .load 45 (.tmp 4)) (hd : o.dst = some 37) (hg : o.guard = none) (f4 : 4 ∉ DS) (b4 : ∀ base, B base → base[4]? = some (.pointer (some ⟨gu, 0, none⟩))) (ku_0 : W.cell? ⟨gu, 0, none⟩ = some (.bool su)) (ku_1 : W.cell? ⟨gu, 1, none⟩ = some (.slice Au nu cu)) (ku_2 : W.cell? ⟨gu, 2, none⟩ = some (.bool tu)) (ku_3 : W.cell? ⟨gu, 3, none⟩ = some (.slice Bu mu du)) (kuF : FI W (.agg #[.bool su, .slice Au nu cu, .bool tu, .slice Bu mu du]) x) : StepOKb Try.prog ops W B DS PS o 37 (fun w v => FI w v x) := by
 intro Q base ac w hB hbel hsz hn hfar
 obtain ⟨dst, op, ty, pos, after, guard⟩ := o
 simp only at hop hd hg
 subst hop hd hg
 refine ⟨rfl, ?_⟩
 have e4 := (hfar 4 f4).trans (b4 base hB)
 have cku_0 := pw_cell_below hbel ku_0
 have cku_1 := pw_cell_below hbel ku_1
 have cku_2 := pw_cell_below hbel ku_2
 have cku_3 := pw_cell_below hbel ku_3
 clear hn hfar b4
 go_simp
 exact ⟨_, rfl, (FI.below kuF hbel), Below.refl _ _⟩
theorem sd5_s1 (hop : o.op = .fieldAddr 26 (.tmp 7) 0) (hd : o.dst = some 38) (hg : o.guard = none) (f7 : 7 ∉ DS) (b7 : ∀ base, B base → base[7]? = some (.pointer (some ⟨g7, 0, none⟩))) : StepOKb Try.prog ops W B DS PS o 38 (fun _ v => v = .pointer (some ⟨g7, 0, none⟩)) := by
 intro Q base ac w hB hbel hsz hn hfar
 obtain ⟨dst, op, ty, pos, after, guard⟩ := o
 simp only at hop hd hg
 subst hop hd hg
 refine ⟨rfl, ?_⟩
 have e7 := (hfar 7 f7).trans (b7 base hB)
 clear hn hfar b7
 go_simp
 exact ⟨_, rfl, (by first | with_reducible rfl | (rw [i64_w]) | (rw [Go.IntKind.wrap_i64]; rfl) | rfl), Below.refl _ _⟩
theorem sd5_s2 (hop : o.op = .load 3 (.tmp 38)) (hd : o.dst = some 39) (hg : o.guard = none) (n1 : 1 ∈ needsOf .any o) (d1 : DS[1]? = some 38) (p1 : PS[1]? = some (fun _ v => v = .pointer (some ⟨g7, 0, none⟩))) (ky : W.cell? ⟨g7, 0, none⟩ = some (.int .i64 y)) : StepOKb Try.prog ops W B DS PS o 39 (fun _ v => v = .int .i64 y) := by
 intro Q base ac w hB hbel hsz hn hfar
 obtain ⟨dst, op, ty, pos, after, guard⟩ := o
 simp only at hop hd hg
 subst hop hd hg
 refine ⟨rfl, ?_⟩
 obtain ⟨v1, e1, rfl⟩ := hn 1 n1 _ _ d1 p1 (by decide)
 have cky := pw_cell_below hbel ky
 clear hn hfar
 go_simp
 exact ⟨_, rfl, (by first | with_reducible rfl | (rw [i64_w]) | (rw [Go.IntKind.wrap_i64]; rfl) | rfl), Below.refl _ _⟩
theorem sd5_s3 (hop : o.op = .call { callee := Go.Callee.value (.func 39), args := #[.tmp 39], argTypes := #[3] }) (hd : o.dst = some 40) (hg : o.guard = none) (n2 : 2 ∈ needsOf .any o) (d2 : DS[2]? = some 39) (p2 : PS[2]? = some (fun _ v => v = .int .i64 y)) (hb0 : -9223372036854775808 ≤ y) (hb1 : y ≤ 9223372036854775807) : StepOKb Try.prog ops W B DS PS o 40 (fun w v => FI w v y) := by
 intro Q base ac w hB hbel hsz hn hfar
 obtain ⟨dst, op, ty, pos, after, guard⟩ := o
 simp only at hop hd hg
 subst hop hd hg
 refine ⟨rfl, ?_⟩
 obtain ⟨v2, e2, rfl⟩ := hn 2 n2 _ _ d2 p2 (by decide)
 clear hn hfar
 go_simp
 go_at_call 39
 refine (whole_calls y hb0 hb1 _).mono ?_
 rintro e w2 ⟨r, rfl, hf, hb2⟩
 exact ⟨_, rfl, hf, hb2⟩
theorem sd5_s4 (hop : o.op = .call { callee := Go.Callee.value (.func 65), args := #[.tmp 37, .tmp 40], argTypes := #[45, 45] }) (hd : o.dst = some 41) (hg : o.guard = none) (n0 : 0 ∈ needsOf .any o) (d0 : DS[0]? = some 37) (p0 : PS[0]? = some (fun w v => FI w v x)) (n3 : 3 ∈ needsOf .any o) (d3 : DS[3]? = some 40) (p3 : PS[3]? = some (fun w v => FI w v y)) (hfx : Fit x) (hfy : Fit y) (hfz : Fit (x - y)) : StepOKb Try.prog ops W B DS PS o 41 (fun w v => ∃ r, v = .tuple #[r, .int .i64 0] ∧ FI w r (x - y)) := by
 intro Q base ac w hB hbel hsz hn hfar
 obtain ⟨dst, op, ty, pos, after, guard⟩ := o
 simp only at hop hd hg
 subst hop hd hg
 refine ⟨rfl, ?_⟩
 obtain ⟨v0, e0, h0⟩ := hn 0 n0 _ _ d0 p0 (by decide)
 obtain ⟨v3, e3, h3⟩ := hn 3 n3 _ _ d3 p3 (by decide)
 clear hn hfar
 go_simp
 go_at_call 65
 refine (fsub_calls _ _ x y _ h0 h3 hfx hfy hfz).mono ?_
 rintro e w2 ⟨r, rfl, hf, hb2⟩
 exact ⟨_, rfl, ⟨r, rfl, hf⟩, hb2⟩
theorem sd5_s5 (hop : o.op = .move (.tmp 41)) (hd : o.dst = some 36) (hg : o.guard = none) (n4 : 4 ∈ needsOf .any o) (d4 : DS[4]? = some 41) (p4 : PS[4]? = some (fun w v => ∃ r, v = .tuple #[r, .int .i64 0] ∧ FI w r (x - y))) : StepOKb Try.prog ops W B DS PS o 36 (fun w v => ∃ r, v = .tuple #[r, .int .i64 0] ∧ FI w r (x - y)) := by
 intro Q base ac w hB hbel hsz hn hfar
 obtain ⟨dst, op, ty, pos, after, guard⟩ := o
 simp only at hop hd hg
 subst hop hd hg
 refine ⟨rfl, ?_⟩
 obtain ⟨v4, e4, h4⟩ := hn 4 n4 _ _ d4 p4 (by decide)
 clear hn hfar
 go_simp
 exact ⟨_, rfl, h4, Below.refl _ _⟩
theorem sd5_s6 (hop : o.op = .extract (.tmp 36) 0) (hd : o.dst = some 42) (hg : o.guard = none) (n5 : 5 ∈ needsOf .any o) (d5 : DS[5]? = some 36) (p5 : PS[5]? = some (fun w v => ∃ r, v = .tuple #[r, .int .i64 0] ∧ FI w r (x - y))) : StepOKb Try.prog ops W B DS PS o 42 (fun w v => FI w v (x - y)) := by
 intro Q base ac w hB hbel hsz hn hfar
 obtain ⟨dst, op, ty, pos, after, guard⟩ := o
 simp only at hop hd hg
 subst hop hd hg
 refine ⟨rfl, ?_⟩
 obtain ⟨v5, e5, h5⟩ := hn 5 n5 _ _ d5 p5 (by decide)
 clear hn hfar
 obtain ⟨r, rfl, h5⟩ := h5
 go_simp
 exact ⟨_, rfl, h5, Below.refl _ _⟩
theorem sd5_s7 (hop : o.op = .extract (.tmp 36) 1) (hd : o.dst = some 43) (hg : o.guard = none) (n5 : 5 ∈ needsOf .any o) (d5 : DS[5]? = some 36) (p5 : PS[5]? = some (fun w v => ∃ r, v = .tuple #[r, .int .i64 0] ∧ FI w r (x - y))) : StepOKb Try.prog ops W B DS PS o 43 (fun _ v => v = .int .i64 0) := by
 intro Q base ac w hB hbel hsz hn hfar
 obtain ⟨dst, op, ty, pos, after, guard⟩ := o
 simp only at hop hd hg
 subst hop hd hg
 refine ⟨rfl, ?_⟩
 obtain ⟨v5, e5, h5⟩ := hn 5 n5 _ _ d5 p5 (by decide)
 clear hn hfar
 obtain ⟨r, rfl, h5⟩ := h5
 go_simp
 exact ⟨_, rfl, (by first | with_reducible rfl | (rw [i64_w]) | (rw [Go.IntKind.wrap_i64]; rfl) | rfl), Below.refl _ _⟩
theorem sd5_s10 (hop : o.op = .assign (.tmp 43)) (hd : o.dst = some 12) (hg : o.guard = none) (n7 : 7 ∈ needsOf .any o) (d7 : DS[7]? = some 43) (p7 : PS[7]? = some (fun _ v => v = .int .i64 0)) : StepOKb Try.prog ops W B DS PS o 12 (fun _ v => v = .int .i64 0) := by
 intro Q base ac w hB hbel hsz hn hfar
 obtain ⟨dst, op, ty, pos, after, guard⟩ := o
 simp only at hop hd hg
 subst hop hd hg
 refine ⟨rfl, ?_⟩
 obtain ⟨v7, e7, rfl⟩ := hn 7 n7 _ _ d7 p7 (by decide)
 clear hn hfar
 go_simp
 exact ⟨_, rfl, (by first | with_reducible rfl | (rw [i64_w]) | (rw [Go.IntKind.wrap_i64]; rfl) | rfl), Below.refl _ _⟩
end
section
variable {x y p q : Int} {g7 g8 gu : Nat} {su tu : Bool} {Au Bu : Option Addr} {nu cu mu du : Nat} {W : World} {B : Array Value → Prop} {DS : List Nat} {PS : List (World → Value → Prop)} {ops : Array Oper} {o : Oper}
theorem sd6_s0 (hop : o.op = .load 45 (.tmp 9)) (hd : o.dst = some 45) (hg : o.guard = none) (f9 : 9 ∉ DS) (b9 : ∀ base, B base → base[9]? = some (.pointer (some ⟨gu, 0, none⟩))) (ku_0 : W.cell? ⟨gu, 0, none⟩ = some (.bool su)) (ku_1 : W.cell? ⟨gu, 1, none⟩ = some (.slice Au nu cu)) (ku_2 : W.cell? ⟨gu, 2, none⟩ = some (.bool tu)) (ku_3 : W.cell? ⟨gu, 3, none⟩ = some (.slice Bu mu du)) (kuF : FI W (.agg #[.bool su, .slice Au nu cu, .bool tu, .slice Bu mu du]) x) : StepOKb Try.prog ops W B DS PS o 45 (fun w v => FI w v x) := by
 intro Q base ac w hB hbel hsz hn hfar
 obtain ⟨dst, op, ty, pos, after, guard⟩ := o
 simp only at hop hd hg
 subst hop hd hg
 refine ⟨rfl, ?_⟩
 have e9 := (hfar 9 f9).trans (b9 base hB)
 have cku_0 := pw_cell_below hbel ku_0
 have cku_1 := pw_cell_below hbel ku_1
 have cku_2 := pw_cell_below hbel ku_2
 have cku_3 := pw_cell_below hbel ku_3
 clear hn hfar b9
 go_simp
 exact ⟨_, rfl, (FI.below kuF hbel), Below.refl _ _⟩
theorem sd6_s1 (hop : o.op = .fieldAddr 26 (.tmp 8) 0) (hd : o.dst = some 46) (hg : o.guard = none) (f8 : 8 ∉ DS) (b8 : ∀ base, B base → base[8]? = some (.pointer (some ⟨g8, 0, none⟩))) : StepOKb Try.prog ops W B DS PS o 46 (fun _ v => v = .pointer (some ⟨g8, 0, none⟩)) := by
 intro Q base ac w hB hbel hsz hn hfar
 obtain ⟨dst, op, ty, pos, after, guard⟩ := o
 simp only at hop hd hg
 subst hop hd hg
 refine ⟨rfl, ?_⟩
 have e8 := (hfar 8 f8).trans (b8 base hB)
 clear hn hfar b8
 go_simp
 exact ⟨_, rfl, (by first | with_reducible rfl | (rw [i64_w]) | (rw [Go.IntKind.wrap_i64]; rfl) | rfl), Below.refl _ _⟩
theorem sd6_s2 (hop : o.op = .load 3 (.tmp 46)) (hd : o.dst = some 47) (hg : o.guard = none) (n1 : 1 ∈ needsOf .any o) (d1 : DS[1]? = some 46) (p1 : PS[1]? = some (fun _ v => v = .pointer (some ⟨g8, 0, none⟩))) (kp : W.cell? ⟨g8, 0, none⟩ = some (.int .i64 p)) : StepOKb Try.prog ops W B DS PS o 47 (fun _ v => v = .int .i64 p) := by
 intro Q base ac w hB hbel hsz hn hfar
 obtain ⟨dst, op, ty, pos, after, guard⟩ := o
 simp only at hop hd hg
 subst hop hd hg
 refine ⟨rfl, ?_⟩
 obtain ⟨v1, e1, rfl⟩ := hn 1 n1 _ _ d1 p1 (by decide)
 have ckp := pw_cell_below hbel kp
 clear hn hfar
 go_simp
 exact ⟨_, rfl, (by first | with_reducible rfl | (rw [i64_w]) | (rw [Go.IntKind.wrap_i64]; rfl) | rfl), Below.refl _ _⟩
theorem sd6_s3 (hop : o.op = .fieldAddr 26 (.tmp 7) 0) (hd : o.dst = some 48) (hg : o.guard = none) (f7 : 7 ∉ DS) (b7 : ∀ base, B base → base[7]? = some (.pointer (some ⟨g7, 0, none⟩))) : StepOKb Try.prog ops W B DS PS o 48 (fun _ v => v = .pointer (some ⟨g7, 0, none⟩)) := by
 intro Q base ac w hB hbel hsz hn hfar
 obtain ⟨dst, op, ty, pos, after, guard⟩ := o
 simp only at hop hd hg
 subst hop hd hg
 refine ⟨rfl, ?_⟩
 have e7 := (hfar 7 f7).trans (b7 base hB)
 clear hn hfar b7
 go_simp
 exact ⟨_, rfl, (by first | with_reducible rfl | (rw [i64_w]) | (rw [Go.IntKind.wrap_i64]; rfl) | rfl), Below.refl _ _⟩
theorem sd6_s4 (hop : o.op = .load 3 (.tmp 48)) (hd : o.dst = some 49) (hg : o.guard = none) (n3 : 3 ∈ needsOf .any o) (d3 : DS[3]? = some 48) (p3 : PS[3]? = some (fun _ v => v = .pointer (some ⟨g7, 0, none⟩))) (kq : W.cell? ⟨g7, 0, none⟩ = some (.int .i64 q)) : StepOKb Try.prog ops W B DS PS o 49 (fun _ v => v = .int .i64 q) := by
 intro Q base ac w hB hbel hsz hn hfar
 obtain ⟨dst, op, ty, pos, after, guard⟩ := o
 simp only at hop hd hg
 subst hop hd hg
 refine ⟨rfl, ?_⟩
 obtain ⟨v3, e3, rfl⟩ := hn 3 n3 _ _ d3 p3 (by decide)
 have ckq := pw_cell_below hbel kq
 clear hn hfar
 go_simp
 exact ⟨_, rfl, (by first | with_reducible rfl | (rw [i64_w]) | (rw [Go.IntKind.wrap_i64]; rfl) | rfl), Below.refl _ _⟩
theorem sd6_s5 (hop : o.op = .binOp Go.BinOp.sub 3 (.tmp 47) (.tmp 49) 3) (hd : o.dst = some 50) (hg : o.guard = none) (n2 : 2 ∈ needsOf .any o) (d2 : DS[2]? = some 47) (p2 : PS[2]? = some (fun _ v => v = .int .i64 p)) (n4 : 4 ∈ needsOf .any o) (d4 : DS[4]? = some 49) (p4 : PS[4]? = some (fun _ v => v = .int .i64 q)) (hy : y = wrap64 (p - q)) : StepOKb Try.prog ops W B DS PS o 50 (fun _ v => v = .int .i64 y) := by
 intro Q base ac w hB hbel hsz hn hfar
 obtain ⟨dst, op, ty, pos, after, guard⟩ := o
 simp only at hop hd hg
 subst hop hd hg
 refine ⟨rfl, ?_⟩
 obtain ⟨v2, e2, rfl⟩ := hn 2 n2 _ _ d2 p2 (by decide)
 obtain ⟨v4, e4, rfl⟩ := hn 4 n4 _ _ d4 p4 (by decide)
 clear hn hfar
 subst hy
 go_simp
 exact ⟨_, rfl, (by first | with_reducible rfl | (rw [i64_w]) | (rw [Go.IntKind.wrap_i64]; rfl) | rfl), Below.refl _ _⟩
theorem sd6_s6 (hop : o.op = .call { callee := Go.Callee.value (.func 39), args := #[.tmp 50], argTypes := #[3] }) (hd : o.dst = some 51) (hg : o.guard = none) (n5 : 5 ∈ needsOf .any o) (d5 : DS[5]? = some 50) (p5 : PS[5]? = some (fun _ v => v = .int .i64 y)) (hb0 : -9223372036854775808 ≤ y) (hb1 : y ≤ 9223372036854775807) : StepOKb Try.prog ops W B DS PS o 51 (fun w v => FI w v y) := by
 intro Q base ac w hB hbel hsz hn hfar
 obtain ⟨dst, op, ty, pos, after, guard⟩ := o
 simp only at hop hd hg
 subst hop hd hg
 refine ⟨rfl, ?_⟩
 obtain ⟨v5, e5, rfl⟩ := hn 5 n5 _ _ d5 p5 (by decide)
 clear hn hfar
 go_simp
 go_at_call 39
 refine (whole_calls y hb0 hb1 _).mono ?_
 rintro e w2 ⟨r, rfl, hf, hb2⟩
 exact ⟨_, rfl, hf, hb2⟩
theorem sd6_s7 (hop : o.op = .call { callee := Go.Callee.value (.func 66), args := #[.tmp 45, .tmp 51], argTypes := #[45, 45] }) (hd : o.dst = some 52) (hg : o.guard = none) (n0 : 0 ∈ needsOf .any o) (d0 : DS[0]? = some 45) (p0 : PS[0]? = some (fun w v => FI w v x)) (n6 : 6 ∈ needsOf .any o) (d6 : DS[6]? = some 51) (p6 : PS[6]? = some (fun w v => FI w v y)) (hfx : Fit x) (hfy : Fit y) (hfz : Fit (x * y)) : StepOKb Try.prog ops W B DS PS o 52 (fun w v => ∃ r, v = .tuple #[r, .int .i64 0] ∧ FI w r (x * y)) := by
 intro Q base ac w hB hbel hsz hn hfar
 obtain ⟨dst, op, ty, pos, after, guard⟩ := o
 simp only at hop hd hg
 subst hop hd hg
 refine ⟨rfl, ?_⟩
 obtain ⟨v0, e0, h0⟩ := hn 0 n0 _ _ d0 p0 (by decide)
 obtain ⟨v6, e6, h6⟩ := hn 6 n6 _ _ d6 p6 (by decide)
 clear hn hfar
 go_simp
 go_at_call 66
 refine (fmul_calls _ _ x y _ h0 h6 hfx hfy hfz).mono ?_
 rintro e w2 ⟨r, rfl, hf, hb2⟩
 exact ⟨_, rfl, ⟨r, rfl, hf⟩, hb2⟩
theorem sd6_s8 (hop : o.op = .move (.tmp 52)) (hd : o.dst = some 44) (hg : o.guard = none) (n7 : 7 ∈ needsOf .any o) (d7 : DS[7]? = some 52) (p7 : PS[7]? = some (fun w v => ∃ r, v = .tuple #[r, .int .i64 0] ∧ FI w r (x * y))) : StepOKb Try.prog ops W B DS PS o 44 (fun w v => ∃ r, v = .tuple #[r, .int .i64 0] ∧ FI w r (x * y)) := by
 intro Q base ac w hB hbel hsz hn hfar
 obtain ⟨dst, op, ty, pos, after, guard⟩ := o
 simp only at hop hd hg
 subst hop hd hg
 refine ⟨rfl, ?_⟩
 obtain ⟨v7, e7, h7⟩ := hn 7 n7 _ _ d7 p7 (by decide)
 clear hn hfar
 go_simp
 exact ⟨_, rfl, h7, Below.refl _ _⟩
theorem sd6_s9 (hop : o.op = .extract (.tmp 44) 0) (hd : o.dst = some 53) (hg : o.guard = none) (n8 : 8 ∈ needsOf .any o) (d8 : DS[8]? = some 44) (p8 : PS[8]? = some (fun w v => ∃ r, v = .tuple #[r, .int .i64 0] ∧ FI w r (x * y))) : StepOKb Try.prog ops W B DS PS o 53 (fun w v => FI w v (x * y)) := by
 intro Q base ac w hB hbel hsz hn hfar
 obtain ⟨dst, op, ty, pos, after, guard⟩ := o
 simp only at hop hd hg
 subst hop hd hg
 refine ⟨rfl, ?_⟩
 obtain ⟨v8, e8, h8⟩ := hn 8 n8 _ _ d8 p8 (by decide)
 clear hn hfar
 obtain ⟨r, rfl, h8⟩ := h8
 go_simp
 exact ⟨_, rfl, h8, Below.refl _ _⟩
theorem sd6_s10 (hop : o.op = .extract (.tmp 44) 1) (hd : o.dst = some 54) (hg : o.guard = none) (n8 : 8 ∈ needsOf .any o) (d8 : DS[8]? = some 44) (p8 : PS[8]? = some (fun w v => ∃ r, v = .tuple #[r, .int .i64 0] ∧ FI w r (x * y))) : StepOKb Try.prog ops W B DS PS o 54 (fun _ v => v = .int .i64 0) := by
 intro Q base ac w hB hbel hsz hn hfar
 obtain ⟨dst, op, ty, pos, after, guard⟩ := o
 simp only at hop hd hg
 subst hop hd hg
 refine ⟨rfl, ?_⟩
 obtain ⟨v8, e8, h8⟩ := hn 8 n8 _ _ d8 p8 (by decide)
 clear hn hfar
 obtain ⟨r, rfl, h8⟩ := h8
 go_simp
 exact ⟨_, rfl, (by first | with_reducible rfl | (rw [i64_w]) | (rw [Go.IntKind.wrap_i64]; rfl) | rfl), Below.refl _ _⟩
theorem sd6_s13 (hop : o.op = .assign (.tmp 54)) (hd : o.dst = some 14) (hg : o.guard = none) (n10 : 10 ∈ needsOf .any o) (d10 : DS[10]? = some 54) (p10 : PS[10]? = some (fun _ v => v = .int .i64 0)) : StepOKb Try.prog ops W B DS PS o 14 (fun _ v => v = .int .i64 0) := by
 intro Q base ac w hB hbel hsz hn hfar
 obtain ⟨dst, op, ty, pos, after, guard⟩ := o
 simp only at hop hd hg
 subst hop hd hg
 refine ⟨rfl, ?_⟩
 obtain ⟨v10, e10, rfl⟩ := hn 10 n10 _ _ d10 p10 (by decide)
 clear hn hfar
 go_simp
 exact ⟨_, rfl, (by first | with_reducible rfl | (rw [i64_w]) | (rw [Go.IntKind.wrap_i64]; rfl) | rfl), Below.refl _ _⟩
end
section
variable {x y p q : Int} {g7 g8 gu : Nat} {su tu : Bool} {Au Bu : Option Addr} {nu cu mu du : Nat} {W : World} {B : Array Value → Prop} {DS : List Nat} {PS : List (World → Value → Prop)} {ops : Array Oper} {o : Oper}
theorem sd7_s0 (hop : o.op = .load 45 (.tmp 11)) (hd : o.dst = some 56) (hg : o.guard = none) (f11 : 11 ∉ DS) (b11 : ∀ base, B base → base[11]? = some (.pointer (some ⟨gu, 0, none⟩))) (ku_0 : W.cell? ⟨gu, 0, none⟩ = some (.bool su)) (ku_1 : W.cell? ⟨gu, 1, none⟩ = some (.slice Au nu cu)) (ku_2 : W.cell? ⟨gu, 2, none⟩ = some (.bool tu)) (ku_3 : W.cell? ⟨gu, 3, none⟩ = some (.slice Bu mu du)) (kuF : FI W (.agg #[.bool su, .slice Au nu cu, .bool tu, .slice Bu mu du]) x) : StepOKb Try.prog ops W B DS PS o 56 (fun w v => FI w v x) := by
 intro Q base ac w hB hbel hsz hn hfar
 obtain ⟨dst, op, ty, pos, after, guard⟩ := o
 simp only at hop hd hg
 subst hop hd hg
 refine ⟨rfl, ?_⟩
 have e11 := (hfar 11 f11).trans (b11 base hB)
 have cku_0 := pw_cell_below hbel ku_0
 have cku_1 := pw_cell_below hbel ku_1
 have cku_2 := pw_cell_below hbel ku_2
 have cku_3 := pw_cell_below hbel ku_3
 clear hn hfar b11
 go_simp
 exact ⟨_, rfl, (FI.below kuF hbel), Below.refl _ _⟩
theorem sd7_s1 (hop : o.op = .fieldAddr 26 (.tmp 8) 1) (hd : o.dst = some 57) (hg : o.guard = none) (f8 : 8 ∉ DS) (b8 : ∀ base, B base → base[8]? = some (.pointer (some ⟨g8, 0, none⟩))) : StepOKb Try.prog ops W B DS PS o 57 (fun _ v => v = .pointer (some ⟨g8, 1, none⟩)) := by
 intro Q base ac w hB hbel hsz hn hfar
 obtain ⟨dst, op, ty, pos, after, guard⟩ := o
 simp only at hop hd hg
 subst hop hd hg
 refine ⟨rfl, ?_⟩
 have e8 := (hfar 8 f8).trans (b8 base hB)
 clear hn hfar b8
 go_simp
 exact ⟨_, rfl, (by first | with_reducible rfl | (rw [i64_w]) | (rw [Go.IntKind.wrap_i64]; rfl) | rfl), Below.refl _ _⟩
theorem sd7_s2 (hop : o.op = .load 3 (.tmp 57)) (hd : o.dst = some 58) (hg : o.guard = none) (n1 : 1 ∈ needsOf .any o) (d1 : DS[1]? = some 57) (p1 : PS[1]? = some (fun _ v => v = .pointer (some ⟨g8, 1, none⟩))) (kp : W.cell? ⟨g8, 1, none⟩ = some (.int .i64 p)) : StepOKb Try.prog ops W B DS PS o 58 (fun _ v => v = .int .i64 p) := by
 intro Q base ac w hB hbel hsz hn hfar
 obtain ⟨dst, op, ty, pos, after, guard⟩ := o
 simp only at hop hd hg
 subst hop hd hg
 refine ⟨rfl, ?_⟩
 obtain ⟨v1, e1, rfl⟩ := hn 1 n1 _ _ d1 p1 (by decide)
 have ckp := pw_cell_below hbel kp
 clear hn hfar
 go_simp
 exact ⟨_, rfl, (by first | with_reducible rfl | (rw [i64_w]) | (rw [Go.IntKind.wrap_i64]; rfl) | rfl), Below.refl _ _⟩
theorem sd7_s3 (hop : o.op = .fieldAddr 26 (.tmp 7) 1) (hd : o.dst = some 59) (hg : o.guard = none) (f7 : 7 ∉ DS) (b7 : ∀ base, B base → base[7]? = some (.pointer (some ⟨g7, 0, none⟩))) : StepOKb Try.prog ops W B DS PS o 59 (fun _ v => v = .pointer (some ⟨g7, 1, none⟩)) := by
 intro Q base ac w hB hbel hsz hn hfar
 obtain ⟨dst, op, ty, pos, after, guard⟩ := o
 simp only at hop hd hg
 subst hop hd hg
 refine ⟨rfl, ?_⟩
 have e7 := (hfar 7 f7).trans (b7 base hB)
 clear hn hfar b7
 go_simp
 exact ⟨_, rfl, (by first | with_reducible rfl | (rw [i64_w]) | (rw [Go.IntKind.wrap_i64]; rfl) | rfl), Below.refl _ _⟩
theorem sd7_s4 (hop : o.op = .load 3 (.tmp 59)) (hd : o.dst = some 60) (hg : o.guard = none) (n3 : 3 ∈ needsOf .any o) (d3 : DS[3]? = some 59) (p3 : PS[3]? = some (fun _ v => v = .pointer (some ⟨g7, 1, none⟩))) (kq : W.cell? ⟨g7, 1, none⟩ = some (.int .i64 q)) : StepOKb Try.prog ops W B DS PS o 60 (fun _ v => v = .int .i64 q) := by
 intro Q base ac w hB hbel hsz hn hfar
 obtain ⟨dst, op, ty, pos, after, guard⟩ := o
 simp only at hop hd hg
 subst hop hd hg
 refine ⟨rfl, ?_⟩
 obtain ⟨v3, e3, rfl⟩ := hn 3 n3 _ _ d3 p3 (by decide)
 have ckq := pw_cell_below hbel kq
 clear hn hfar
 go_simp
 exact ⟨_, rfl, (by first | with_reducible rfl | (rw [i64_w]) | (rw [Go.IntKind.wrap_i64]; rfl) | rfl), Below.refl _ _⟩
theorem sd7_s5 (hop : o.op = .binOp Go.BinOp.sub 3 (.tmp 58) (.tmp 60) 3) (hd : o.dst = some 61) (hg : o.guard = none) (n2 : 2 ∈ needsOf .any o) (d2 : DS[2]? = some 58) (p2 : PS[2]? = some (fun _ v => v = .int .i64 p)) (n4 : 4 ∈ needsOf .any o) (d4 : DS[4]? = some 60) (p4 : PS[4]? = some (fun _ v => v = .int .i64 q)) (hy : y = wrap64 (p - q)) : StepOKb Try.prog ops W B DS PS o 61 (fun _ v => v = .int .i64 y) := by
 intro Q base ac w hB hbel hsz hn hfar
 obtain ⟨dst, op, ty, pos, after, guard⟩ := o
 simp only at hop hd hg
 subst hop hd hg
 refine ⟨rfl, ?_⟩
 obtain ⟨v2, e2, rfl⟩ := hn 2 n2 _ _ d2 p2 (by decide)
 obtain ⟨v4, e4, rfl⟩ := hn 4 n4 _ _ d4 p4 (by decide)
 clear hn hfar
 subst hy
 go_simp
 exact ⟨_, rfl, (by first | with_reducible rfl | (rw [i64_w]) | (rw [Go.IntKind.wrap_i64]; rfl) | rfl), Below.refl _ _⟩
theorem sd7_s6 (hop : o.op = .call { callee := Go.Callee.value (.func 39), args := #[.tmp 61], argTypes := #[3] }) (hd : o.dst = some 62) (hg : o.guard = none) (n5 : 5 ∈ needsOf .any o) (d5 : DS[5]? = some 61) (p5 : PS[5]? = some (fun _ v => v = .int .i64 y)) (hb0 : -9223372036854775808 ≤ y) (hb1 : y ≤ 9223372036854775807) : StepOKb Try.prog ops W B DS PS o 62 (fun w v => FI w v y) := by
 intro Q base ac w hB hbel hsz hn hfar
 obtain ⟨dst, op, ty, pos, after, guard⟩ := o
 simp only at hop hd hg
 subst hop hd hg
 refine ⟨rfl, ?_⟩
 obtain ⟨v5, e5, rfl⟩ := hn 5 n5 _ _ d5 p5 (by decide)
 clear hn hfar
 go_simp
 go_at_call 39
 refine (whole_calls y hb0 hb1 _).mono ?_
 rintro e w2 ⟨r, rfl, hf, hb2⟩
 exact ⟨_, rfl, hf, hb2⟩
theorem sd7_s7 (hop : o.op = .call { callee := Go.Callee.value (.func 66), args := #[.tmp 56, .tmp 62], argTypes := #[45, 45] }) (hd : o.dst = some 63) (hg : o.guard = none) (n0 : 0 ∈ needsOf .any o) (d0 : DS[0]? = some 56) (p0 : PS[0]? = some (fun w v => FI w v x)) (n6 : 6 ∈ needsOf .any o) (d6 : DS[6]? = some 62) (p6 : PS[6]? = some (fun w v => FI w v y)) (hfx : Fit x) (hfy : Fit y) (hfz : Fit (x * y)) : StepOKb Try.prog ops W B DS PS o 63 (fun w v => ∃ r, v = .tuple #[r, .int .i64 0] ∧ FI w r (x * y)) := by
 intro Q base ac w hB hbel hsz hn hfar
 obtain ⟨dst, op, ty, pos, after, guard⟩ := o
 simp only at hop hd hg
 subst hop hd hg
 refine ⟨rfl, ?_⟩
 obtain ⟨v0, e0, h0⟩ := hn 0 n0 _ _ d0 p0 (by decide)
 obtain ⟨v6, e6, h6⟩ := hn 6 n6 _ _ d6 p6 (by decide)
 clear hn hfar
 go_simp
 go_at_call 66
 refine (fmul_calls _ _ x y _ h0 h6 hfx hfy hfz).mono ?_
 rintro e w2 ⟨r, rfl, hf, hb2⟩
 exact ⟨_, rfl, ⟨r, rfl, hf⟩, hb2⟩
theorem sd7_s8 (hop : o.op = .move (.tmp 63)) (hd : o.dst = some 55) (hg : o.guard = none) (n7 : 7 ∈ needsOf .any o) (d7 : DS[7]? = some 63) (p7 : PS[7]? = some (fun w v => ∃ r, v = .tuple #[r, .int .i64 0] ∧ FI w r (x * y))) : StepOKb Try.prog ops W B DS PS o 55 (fun w v => ∃ r, v = .tuple #[r, .int .i64 0] ∧ FI w r (x * y)) := by
 intro Q base ac w hB hbel hsz hn hfar
 obtain ⟨dst, op, ty, pos, after, guard⟩ := o
 simp only at hop hd hg
 subst hop hd hg
 refine ⟨rfl, ?_⟩
 obtain ⟨v7, e7, h7⟩ := hn 7 n7 _ _ d7 p7 (by decide)
 clear hn hfar
 go_simp
 exact ⟨_, rfl, h7, Below.refl _ _⟩
theorem sd7_s9 (hop : o.op = .extract (.tmp 55) 0) (hd : o.dst = some 64) (hg : o.guard = none) (n8 : 8 ∈ needsOf .any o) (d8 : DS[8]? = some 55) (p8 : PS[8]? = some (fun w v => ∃ r, v = .tuple #[r, .int .i64 0] ∧ FI w r (x * y))) : StepOKb Try.prog ops W B DS PS o 64 (fun w v => FI w v (x * y)) := by
 intro Q base ac w hB hbel hsz hn hfar
 obtain ⟨dst, op, ty, pos, after, guard⟩ := o
 simp only at hop hd hg
 subst hop hd hg
 refine ⟨rfl, ?_⟩
 obtain ⟨v8, e8, h8⟩ := hn 8 n8 _ _ d8 p8 (by decide)
 clear hn hfar
 obtain ⟨r, rfl, h8⟩ := h8
 go_simp
 exact ⟨_, rfl, h8, Below.refl _ _⟩
theorem sd7_s10 (hop : o.op = .extract (.tmp 55) 1) (hd : o.dst = some 65) (hg : o.guard = none) (n8 : 8 ∈ needsOf .any o) (d8 : DS[8]? = some 55) (p8 : PS[8]? = some (fun w v => ∃ r, v = .tuple #[r, .int .i64 0] ∧ FI w r (x * y))) : StepOKb Try.prog ops W B DS PS o 65 (fun _ v => v = .int .i64 0) := by
 intro Q base ac w hB hbel hsz hn hfar
 obtain ⟨dst, op, ty, pos, after, guard⟩ := o
 simp only at hop hd hg
 subst hop hd hg
 refine ⟨rfl, ?_⟩
 obtain ⟨v8, e8, h8⟩ := hn 8 n8 _ _ d8 p8 (by decide)
 clear hn hfar
 obtain ⟨r, rfl, h8⟩ := h8
 go_simp
 exact ⟨_, rfl, (by first | with_reducible rfl | (rw [i64_w]) | (rw [Go.IntKind.wrap_i64]; rfl) | rfl), Below.refl _ _⟩
theorem sd7_s13 (hop : o.op = .assign (.tmp 65)) (hd : o.dst = some 16) (hg : o.guard = none) (n10 : 10 ∈ needsOf .any o) (d10 : DS[10]? = some 65) (p10 : PS[10]? = some (fun _ v => v = .int .i64 0)) : StepOKb Try.prog ops W B DS PS o 16 (fun _ v => v = .int .i64 0) := by
 intro Q base ac w hB hbel hsz hn hfar
 obtain ⟨dst, op, ty, pos, after, guard⟩ := o
 simp only at hop hd hg
 subst hop hd hg
 refine ⟨rfl, ?_⟩
 obtain ⟨v10, e10, rfl⟩ := hn 10 n10 _ _ d10 p10 (by decide)
 clear hn hfar
 go_simp
 exact ⟨_, rfl, (by first | with_reducible rfl | (rw [i64_w]) | (rw [Go.IntKind.wrap_i64]; rfl) | rfl), Below.refl _ _⟩
end
end Go.Proofs.Ytjmkccabpnigiaa.P
