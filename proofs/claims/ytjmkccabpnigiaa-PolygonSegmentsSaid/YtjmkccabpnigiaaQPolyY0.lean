import Derived.Test.YtjmkccabpnigiaaQPolyX
import Derived.Test.YtjmkccabpnigiaaQPolyF
import Derived.Test.YtjmkccabpnigiaaQPolyT
namespace Go.Proofs.Ytjmkccabpnigiaa.P
open Go.RowKit Go.Proofs.YtjmkccabpnigiaaW.PrintWords Go.Proofs.YtjmkccabpnigiaaW.PrintLast Go.Proofs.YtjmkccabpnigiaaW.PrintMore
attribute [local go_sem] max2_int min2_int max_two min_two max_three min_three max_four min_four
set_option linter.unusedVariables false
set_option linter.unusedSimpArgs false
set_option maxHeartbeats 1000000
set_option maxRecDepth 100000
section
variable {a b c d : S26} {i j1 j2 j3 : Int} {ad : Addr} {m : Nat} {W : World} {B : Array Value → Prop} {DS : List Nat} {PS : List (World → Value → Prop)} {ops : Array Oper} {o : Oper}
theorem ps14_s0 (hop : o.op = .move (.tmp 7)) (hd : o.dst = some 57) (hg : o.guard = none) (f7 : 7 ∉ DS) (b7 : ∀ base, B base → base[7]? = some (.slice (some ad) 8 m)) : StepOKb Try.prog ops W B DS PS o 57 (fun _ v => v = .slice (some ad) 8 m) := by
 intro Q base ac w hB hbel hsz hn hfar
 obtain ⟨dst, op, ty, pos, after, guard⟩ := o
 simp only at hop hd hg
 subst hop hd hg
 refine ⟨rfl, ?_⟩
 have e7 := (hfar 7 f7).trans (b7 base hB)
 clear hn hfar b7
 go_simp
 exact ⟨_, rfl, (by first | with_reducible rfl | (rw [i64_w]) | (rw [Go.IntKind.wrap_i64]; rfl) | rfl), Below.refl _ _⟩
theorem ps14_s1 (hop : o.op = .move (.tmp 11)) (hd : o.dst = some 58) (hg : o.guard = none) (f11 : 11 ∉ DS) (b11 : ∀ base, B base → base[11]? = some (.int .i64 i)) : StepOKb Try.prog ops W B DS PS o 58 (fun _ v => v = .int .i64 i) := by
 intro Q base ac w hB hbel hsz hn hfar
 obtain ⟨dst, op, ty, pos, after, guard⟩ := o
 simp only at hop hd hg
 subst hop hd hg
 refine ⟨rfl, ?_⟩
 have e11 := (hfar 11 f11).trans (b11 base hB)
 clear hn hfar b11
 go_simp
 exact ⟨_, rfl, (by first | with_reducible rfl | (rw [i64_w]) | (rw [Go.IntKind.wrap_i64]; rfl) | rfl), Below.refl _ _⟩
theorem ps14_s2 (hop : o.op = .indexAddr 23 (.tmp 57) (.tmp 58)) (hd : o.dst = some 59) (hg : o.guard = none) (n0 : 0 ∈ needsOf .any o) (d0 : DS[0]? = some 57) (p0 : PS[0]? = some (fun _ v => v = .slice (some ad) 8 m)) (n1 : 1 ∈ needsOf .any o) (d1 : DS[1]? = some 58) (p1 : PS[1]? = some (fun _ v => v = .int .i64 i)) (la : 0 ≤ i) (ua : i < 8) : StepOKb Try.prog ops W B DS PS o 59 (fun _ v => v = .pointer (some (ad.add (i.toNat * 2)))) := by
 intro Q base ac w hB hbel hsz hn hfar
 obtain ⟨dst, op, ty, pos, after, guard⟩ := o
 simp only at hop hd hg
 subst hop hd hg
 refine ⟨rfl, ?_⟩
 obtain ⟨v0, e0, rfl⟩ := hn 0 n0 _ _ d0 p0 (by decide)
 obtain ⟨v1, e1, rfl⟩ := hn 1 n1 _ _ d1 p1 (by decide)
 clear hn hfar
 go_simp
 exact ⟨_, rfl, (by first | with_reducible rfl | (rw [i64_w]) | (rw [Go.IntKind.wrap_i64]; rfl) | rfl), Below.refl _ _⟩
theorem ps14_s3 (hop : o.op = .load 26 (.tmp 59)) (hd : o.dst = some 60) (hg : o.guard = none) (n2 : 2 ∈ needsOf .any o) (d2 : DS[2]? = some 59) (p2 : PS[2]? = some (fun _ v => v = .pointer (some (ad.add (i.toNat * 2))))) (ka0 : W.cell? (ad.add (i.toNat * 2)) = some (.int .i64 a.f0)) (ka1 : W.cell? ⟨(ad.add (i.toNat * 2)).block, (ad.add (i.toNat * 2)).off + 1, none⟩ = some (.int .i64 a.f1)) : StepOKb Try.prog ops W B DS PS o 60 (fun _ v => v = .agg #[.int .i64 a.f0, .int .i64 a.f1]) := by
 intro Q base ac w hB hbel hsz hn hfar
 obtain ⟨dst, op, ty, pos, after, guard⟩ := o
 simp only at hop hd hg
 subst hop hd hg
 refine ⟨rfl, ?_⟩
 obtain ⟨v2, e2, rfl⟩ := hn 2 n2 _ _ d2 p2 (by decide)
 have cka0 := pw_cell_below hbel ka0
 have cka1 := pw_cell_below hbel ka1
 clear hn hfar
 go_simp
 exact ⟨_, rfl, (by first | with_reducible rfl | (rw [i64_w]) | (rw [Go.IntKind.wrap_i64]; rfl) | rfl), Below.refl _ _⟩
theorem ps14_s4 (hop : o.op = .move (.tmp 7)) (hd : o.dst = some 61) (hg : o.guard = none) (f7 : 7 ∉ DS) (b7 : ∀ base, B base → base[7]? = some (.slice (some ad) 8 m)) : StepOKb Try.prog ops W B DS PS o 61 (fun _ v => v = .slice (some ad) 8 m) := by
 intro Q base ac w hB hbel hsz hn hfar
 obtain ⟨dst, op, ty, pos, after, guard⟩ := o
 simp only at hop hd hg
 subst hop hd hg
 refine ⟨rfl, ?_⟩
 have e7 := (hfar 7 f7).trans (b7 base hB)
 clear hn hfar b7
 go_simp
 exact ⟨_, rfl, (by first | with_reducible rfl | (rw [i64_w]) | (rw [Go.IntKind.wrap_i64]; rfl) | rfl), Below.refl _ _⟩
theorem ps14_s5 (hop : o.op = .move (.tmp 11)) (hd : o.dst = some 62) (hg : o.guard = none) (f11 : 11 ∉ DS) (b11 : ∀ base, B base → base[11]? = some (.int .i64 i)) : StepOKb Try.prog ops W B DS PS o 62 (fun _ v => v = .int .i64 i) := by
 intro Q base ac w hB hbel hsz hn hfar
 obtain ⟨dst, op, ty, pos, after, guard⟩ := o
 simp only at hop hd hg
 subst hop hd hg
 refine ⟨rfl, ?_⟩
 have e11 := (hfar 11 f11).trans (b11 base hB)
 clear hn hfar b11
 go_simp
 exact ⟨_, rfl, (by first | with_reducible rfl | (rw [i64_w]) | (rw [Go.IntKind.wrap_i64]; rfl) | rfl), Below.refl _ _⟩
theorem ps14_s6 (hop : o.op = .binOp Go.BinOp.add 3 (.tmp 62) (.const (.int .i64 1)) 3) (hd : o.dst = some 63) (hg : o.guard = none) (n5 : 5 ∈ needsOf .any o) (d5 : DS[5]? = some 62) (p5 : PS[5]? = some (fun _ v => v = .int .i64 i)) : StepOKb Try.prog ops W B DS PS o 63 (fun _ v => v = .int .i64 (wrap64 (i + 1))) := by
 intro Q base ac w hB hbel hsz hn hfar
 obtain ⟨dst, op, ty, pos, after, guard⟩ := o
 simp only at hop hd hg
 subst hop hd hg
 refine ⟨rfl, ?_⟩
 obtain ⟨v5, e5, rfl⟩ := hn 5 n5 _ _ d5 p5 (by decide)
 clear hn hfar
 go_simp
 exact ⟨_, rfl, (by first | with_reducible rfl | (rw [i64_w]) | (rw [Go.IntKind.wrap_i64]; rfl) | rfl), Below.refl _ _⟩
theorem ps14_s7 (hop : o.op = .binOp Go.BinOp.rem 3 (.tmp 63) (.const (.int .i64 8)) 3) (hd : o.dst = some 64) (hg : o.guard = none) (n6 : 6 ∈ needsOf .any o) (d6 : DS[6]? = some 63) (p6 : PS[6]? = some (fun _ v => v = .int .i64 (wrap64 (i + 1)))) (h1 : j1 = Int.tmod (wrap64 (i + 1)) 8) : StepOKb Try.prog ops W B DS PS o 64 (fun _ v => v = .int .i64 j1) := by
 intro Q base ac w hB hbel hsz hn hfar
 obtain ⟨dst, op, ty, pos, after, guard⟩ := o
 simp only at hop hd hg
 subst hop hd hg
 refine ⟨rfl, ?_⟩
 obtain ⟨v6, e6, rfl⟩ := hn 6 n6 _ _ d6 p6 (by decide)
 clear hn hfar
 subst h1
 go_simp
 exact ⟨_, rfl, (by first | with_reducible rfl | (rw [i64_w]) | (rw [Go.IntKind.wrap_i64]; rfl) | rfl), Below.refl _ _⟩
theorem ps14_s8 (hop : o.op = .indexAddr 23 (.tmp 61) (.tmp 64)) (hd : o.dst = some 65) (hg : o.guard = none) (n4 : 4 ∈ needsOf .any o) (d4 : DS[4]? = some 61) (p4 : PS[4]? = some (fun _ v => v = .slice (some ad) 8 m)) (n7 : 7 ∈ needsOf .any o) (d7 : DS[7]? = some 64) (p7 : PS[7]? = some (fun _ v => v = .int .i64 j1)) (lb : 0 ≤ j1) (ub : j1 < 8) : StepOKb Try.prog ops W B DS PS o 65 (fun _ v => v = .pointer (some (ad.add (j1.toNat * 2)))) := by
 intro Q base ac w hB hbel hsz hn hfar
 obtain ⟨dst, op, ty, pos, after, guard⟩ := o
 simp only at hop hd hg
 subst hop hd hg
 refine ⟨rfl, ?_⟩
 obtain ⟨v4, e4, rfl⟩ := hn 4 n4 _ _ d4 p4 (by decide)
 obtain ⟨v7, e7, rfl⟩ := hn 7 n7 _ _ d7 p7 (by decide)
 clear hn hfar
 go_simp
 exact ⟨_, rfl, (by first | with_reducible rfl | (rw [i64_w]) | (rw [Go.IntKind.wrap_i64]; rfl) | rfl), Below.refl _ _⟩
theorem ps14_s9 (hop : o.op = .load 26 (.tmp 65)) (hd : o.dst = some 66) (hg : o.guard = none) (n8 : 8 ∈ needsOf .any o) (d8 : DS[8]? = some 65) (p8 : PS[8]? = some (fun _ v => v = .pointer (some (ad.add (j1.toNat * 2))))) (kb0 : W.cell? (ad.add (j1.toNat * 2)) = some (.int .i64 b.f0)) (kb1 : W.cell? ⟨(ad.add (j1.toNat * 2)).block, (ad.add (j1.toNat * 2)).off + 1, none⟩ = some (.int .i64 b.f1)) : StepOKb Try.prog ops W B DS PS o 66 (fun _ v => v = .agg #[.int .i64 b.f0, .int .i64 b.f1]) := by
 intro Q base ac w hB hbel hsz hn hfar
 obtain ⟨dst, op, ty, pos, after, guard⟩ := o
 simp only at hop hd hg
 subst hop hd hg
 refine ⟨rfl, ?_⟩
 obtain ⟨v8, e8, rfl⟩ := hn 8 n8 _ _ d8 p8 (by decide)
 have ckb0 := pw_cell_below hbel kb0
 have ckb1 := pw_cell_below hbel kb1
 clear hn hfar
 go_simp
 exact ⟨_, rfl, (by first | with_reducible rfl | (rw [i64_w]) | (rw [Go.IntKind.wrap_i64]; rfl) | rfl), Below.refl _ _⟩
theorem ps14_s10 (hop : o.op = .move (.tmp 7)) (hd : o.dst = some 67) (hg : o.guard = none) (f7 : 7 ∉ DS) (b7 : ∀ base, B base → base[7]? = some (.slice (some ad) 8 m)) : StepOKb Try.prog ops W B DS PS o 67 (fun _ v => v = .slice (some ad) 8 m) := by
 intro Q base ac w hB hbel hsz hn hfar
 obtain ⟨dst, op, ty, pos, after, guard⟩ := o
 simp only at hop hd hg
 subst hop hd hg
 refine ⟨rfl, ?_⟩
 have e7 := (hfar 7 f7).trans (b7 base hB)
 clear hn hfar b7
 go_simp
 exact ⟨_, rfl, (by first | with_reducible rfl | (rw [i64_w]) | (rw [Go.IntKind.wrap_i64]; rfl) | rfl), Below.refl _ _⟩
theorem ps14_s11 (hop : o.op = .move (.tmp 11)) (hd : o.dst = some 68) (hg : o.guard = none) (f11 : 11 ∉ DS) (b11 : ∀ base, B base → base[11]? = some (.int .i64 i)) : StepOKb Try.prog ops W B DS PS o 68 (fun _ v => v = .int .i64 i) := by
 intro Q base ac w hB hbel hsz hn hfar
 obtain ⟨dst, op, ty, pos, after, guard⟩ := o
 simp only at hop hd hg
 subst hop hd hg
 refine ⟨rfl, ?_⟩
 have e11 := (hfar 11 f11).trans (b11 base hB)
 clear hn hfar b11
 go_simp
 exact ⟨_, rfl, (by first | with_reducible rfl | (rw [i64_w]) | (rw [Go.IntKind.wrap_i64]; rfl) | rfl), Below.refl _ _⟩
theorem ps14_s12 (hop : o.op = .binOp Go.BinOp.add 3 (.tmp 68) (.const (.int .i64 2)) 3) (hd : o.dst = some 69) (hg : o.guard = none) (n11 : 11 ∈ needsOf .any o) (d11 : DS[11]? = some 68) (p11 : PS[11]? = some (fun _ v => v = .int .i64 i)) : StepOKb Try.prog ops W B DS PS o 69 (fun _ v => v = .int .i64 (wrap64 (i + 2))) := by
 intro Q base ac w hB hbel hsz hn hfar
 obtain ⟨dst, op, ty, pos, after, guard⟩ := o
 simp only at hop hd hg
 subst hop hd hg
 refine ⟨rfl, ?_⟩
 obtain ⟨v11, e11, rfl⟩ := hn 11 n11 _ _ d11 p11 (by decide)
 clear hn hfar
 go_simp
 exact ⟨_, rfl, (by first | with_reducible rfl | (rw [i64_w]) | (rw [Go.IntKind.wrap_i64]; rfl) | rfl), Below.refl _ _⟩
theorem ps14_s13 (hop : o.op = .binOp Go.BinOp.rem 3 (.tmp 69) (.const (.int .i64 8)) 3) (hd : o.dst = some 70) (hg : o.guard = none) (n12 : 12 ∈ needsOf .any o) (d12 : DS[12]? = some 69) (p12 : PS[12]? = some (fun _ v => v = .int .i64 (wrap64 (i + 2)))) (h2 : j2 = Int.tmod (wrap64 (i + 2)) 8) : StepOKb Try.prog ops W B DS PS o 70 (fun _ v => v = .int .i64 j2) := by
 intro Q base ac w hB hbel hsz hn hfar
 obtain ⟨dst, op, ty, pos, after, guard⟩ := o
 simp only at hop hd hg
 subst hop hd hg
 refine ⟨rfl, ?_⟩
 obtain ⟨v12, e12, rfl⟩ := hn 12 n12 _ _ d12 p12 (by decide)
 clear hn hfar
 subst h2
 go_simp
 exact ⟨_, rfl, (by first | with_reducible rfl | (rw [i64_w]) | (rw [Go.IntKind.wrap_i64]; rfl) | rfl), Below.refl _ _⟩
theorem ps14_s14 (hop : o.op = .indexAddr 23 (.tmp 67) (.tmp 70)) (hd : o.dst = some 71) (hg : o.guard = none) (n10 : 10 ∈ needsOf .any o) (d10 : DS[10]? = some 67) (p10 : PS[10]? = some (fun _ v => v = .slice (some ad) 8 m)) (n13 : 13 ∈ needsOf .any o) (d13 : DS[13]? = some 70) (p13 : PS[13]? = some (fun _ v => v = .int .i64 j2)) (lc : 0 ≤ j2) (uc : j2 < 8) : StepOKb Try.prog ops W B DS PS o 71 (fun _ v => v = .pointer (some (ad.add (j2.toNat * 2)))) := by
 intro Q base ac w hB hbel hsz hn hfar
 obtain ⟨dst, op, ty, pos, after, guard⟩ := o
 simp only at hop hd hg
 subst hop hd hg
 refine ⟨rfl, ?_⟩
 obtain ⟨v10, e10, rfl⟩ := hn 10 n10 _ _ d10 p10 (by decide)
 obtain ⟨v13, e13, rfl⟩ := hn 13 n13 _ _ d13 p13 (by decide)
 clear hn hfar
 go_simp
 exact ⟨_, rfl, (by first | with_reducible rfl | (rw [i64_w]) | (rw [Go.IntKind.wrap_i64]; rfl) | rfl), Below.refl _ _⟩
theorem ps14_s15 (hop : o.op = .load 26 (.tmp 71)) (hd : o.dst = some 72) (hg : o.guard = none) (n14 : 14 ∈ needsOf .any o) (d14 : DS[14]? = some 71) (p14 : PS[14]? = some (fun _ v => v = .pointer (some (ad.add (j2.toNat * 2))))) (kc0 : W.cell? (ad.add (j2.toNat * 2)) = some (.int .i64 c.f0)) (kc1 : W.cell? ⟨(ad.add (j2.toNat * 2)).block, (ad.add (j2.toNat * 2)).off + 1, none⟩ = some (.int .i64 c.f1)) : StepOKb Try.prog ops W B DS PS o 72 (fun _ v => v = .agg #[.int .i64 c.f0, .int .i64 c.f1]) := by
 intro Q base ac w hB hbel hsz hn hfar
 obtain ⟨dst, op, ty, pos, after, guard⟩ := o
 simp only at hop hd hg
 subst hop hd hg
 refine ⟨rfl, ?_⟩
 obtain ⟨v14, e14, rfl⟩ := hn 14 n14 _ _ d14 p14 (by decide)
 have ckc0 := pw_cell_below hbel kc0
 have ckc1 := pw_cell_below hbel kc1
 clear hn hfar
 go_simp
 exact ⟨_, rfl, (by first | with_reducible rfl | (rw [i64_w]) | (rw [Go.IntKind.wrap_i64]; rfl) | rfl), Below.refl _ _⟩
theorem ps14_s16 (hop : o.op = .move (.tmp 7)) (hd : o.dst = some 73) (hg : o.guard = none) (f7 : 7 ∉ DS) (b7 : ∀ base, B base → base[7]? = some (.slice (some ad) 8 m)) : StepOKb Try.prog ops W B DS PS o 73 (fun _ v => v = .slice (some ad) 8 m) := by
 intro Q base ac w hB hbel hsz hn hfar
 obtain ⟨dst, op, ty, pos, after, guard⟩ := o
 simp only at hop hd hg
 subst hop hd hg
 refine ⟨rfl, ?_⟩
 have e7 := (hfar 7 f7).trans (b7 base hB)
 clear hn hfar b7
 go_simp
 exact ⟨_, rfl, (by first | with_reducible rfl | (rw [i64_w]) | (rw [Go.IntKind.wrap_i64]; rfl) | rfl), Below.refl _ _⟩
theorem ps14_s17 (hop : o.op = .move (.tmp 11)) (hd : o.dst = some 74) (hg : o.guard = none) (f11 : 11 ∉ DS) (b11 : ∀ base, B base → base[11]? = some (.int .i64 i)) : StepOKb Try.prog ops W B DS PS o 74 (fun _ v => v = .int .i64 i) := by
 intro Q base ac w hB hbel hsz hn hfar
 obtain ⟨dst, op, ty, pos, after, guard⟩ := o
 simp only at hop hd hg
 subst hop hd hg
 refine ⟨rfl, ?_⟩
 have e11 := (hfar 11 f11).trans (b11 base hB)
 clear hn hfar b11
 go_simp
 exact ⟨_, rfl, (by first | with_reducible rfl | (rw [i64_w]) | (rw [Go.IntKind.wrap_i64]; rfl) | rfl), Below.refl _ _⟩
theorem ps14_s18 (hop : o.op = .binOp Go.BinOp.add 3 (.tmp 74) (.const (.int .i64 3)) 3) (hd : o.dst = some 75) (hg : o.guard = none) (n17 : 17 ∈ needsOf .any o) (d17 : DS[17]? = some 74) (p17 : PS[17]? = some (fun _ v => v = .int .i64 i)) : StepOKb Try.prog ops W B DS PS o 75 (fun _ v => v = .int .i64 (wrap64 (i + 3))) := by
 intro Q base ac w hB hbel hsz hn hfar
 obtain ⟨dst, op, ty, pos, after, guard⟩ := o
 simp only at hop hd hg
 subst hop hd hg
 refine ⟨rfl, ?_⟩
 obtain ⟨v17, e17, rfl⟩ := hn 17 n17 _ _ d17 p17 (by decide)
 clear hn hfar
 go_simp
 exact ⟨_, rfl, (by first | with_reducible rfl | (rw [i64_w]) | (rw [Go.IntKind.wrap_i64]; rfl) | rfl), Below.refl _ _⟩
theorem ps14_s19 (hop : o.op = .binOp Go.BinOp.rem 3 (.tmp 75) (.const (.int .i64 8)) 3) (hd : o.dst = some 76) (hg : o.guard = none) (n18 : 18 ∈ needsOf .any o) (d18 : DS[18]? = some 75) (p18 : PS[18]? = some (fun _ v => v = .int .i64 (wrap64 (i + 3)))) (h3 : j3 = Int.tmod (wrap64 (i + 3)) 8) : StepOKb Try.prog ops W B DS PS o 76 (fun _ v => v = .int .i64 j3) := by
 intro Q base ac w hB hbel hsz hn hfar
 obtain ⟨dst, op, ty, pos, after, guard⟩ := o
 simp only at hop hd hg
 subst hop hd hg
 refine ⟨rfl, ?_⟩
 obtain ⟨v18, e18, rfl⟩ := hn 18 n18 _ _ d18 p18 (by decide)
 clear hn hfar
 subst h3
 go_simp
 exact ⟨_, rfl, (by first | with_reducible rfl | (rw [i64_w]) | (rw [Go.IntKind.wrap_i64]; rfl) | rfl), Below.refl _ _⟩
theorem ps14_s20 (hop : o.op = .indexAddr 23 (.tmp 73) (.tmp 76)) (hd : o.dst = some 77) (hg : o.guard = none) (n16 : 16 ∈ needsOf .any o) (d16 : DS[16]? = some 73) (p16 : PS[16]? = some (fun _ v => v = .slice (some ad) 8 m)) (n19 : 19 ∈ needsOf .any o) (d19 : DS[19]? = some 76) (p19 : PS[19]? = some (fun _ v => v = .int .i64 j3)) (ld : 0 ≤ j3) (ud : j3 < 8) : StepOKb Try.prog ops W B DS PS o 77 (fun _ v => v = .pointer (some (ad.add (j3.toNat * 2)))) := by
 intro Q base ac w hB hbel hsz hn hfar
 obtain ⟨dst, op, ty, pos, after, guard⟩ := o
 simp only at hop hd hg
 subst hop hd hg
 refine ⟨rfl, ?_⟩
 obtain ⟨v16, e16, rfl⟩ := hn 16 n16 _ _ d16 p16 (by decide)
 obtain ⟨v19, e19, rfl⟩ := hn 19 n19 _ _ d19 p19 (by decide)
 clear hn hfar
 go_simp
 exact ⟨_, rfl, (by first | with_reducible rfl | (rw [i64_w]) | (rw [Go.IntKind.wrap_i64]; rfl) | rfl), Below.refl _ _⟩
theorem ps14_s21 (hop : o.op = .load 26 (.tmp 77)) (hd : o.dst = some 78) (hg : o.guard = none) (n20 : 20 ∈ needsOf .any o) (d20 : DS[20]? = some 77) (p20 : PS[20]? = some (fun _ v => v = .pointer (some (ad.add (j3.toNat * 2))))) (kd0 : W.cell? (ad.add (j3.toNat * 2)) = some (.int .i64 d.f0)) (kd1 : W.cell? ⟨(ad.add (j3.toNat * 2)).block, (ad.add (j3.toNat * 2)).off + 1, none⟩ = some (.int .i64 d.f1)) : StepOKb Try.prog ops W B DS PS o 78 (fun _ v => v = .agg #[.int .i64 d.f0, .int .i64 d.f1]) := by
 intro Q base ac w hB hbel hsz hn hfar
 obtain ⟨dst, op, ty, pos, after, guard⟩ := o
 simp only at hop hd hg
 subst hop hd hg
 refine ⟨rfl, ?_⟩
 obtain ⟨v20, e20, rfl⟩ := hn 20 n20 _ _ d20 p20 (by decide)
 have ckd0 := pw_cell_below hbel kd0
 have ckd1 := pw_cell_below hbel kd1
 clear hn hfar
 go_simp
 exact ⟨_, rfl, (by first | with_reducible rfl | (rw [i64_w]) | (rw [Go.IntKind.wrap_i64]; rfl) | rfl), Below.refl _ _⟩
end
section
variable {a b c d : S26} {ga gb gc gd : Nat} {W : World} {B : Array Value → Prop} {DS : List Nat} {PS : List (World → Value → Prop)} {ops : Array Oper} {o : Oper}
theorem ps15_s0 (hop : o.op = .load 26 (.tmp 12)) (hd : o.dst = some 79) (hg : o.guard = none) (f12 : 12 ∉ DS) (b12 : ∀ base, B base → base[12]? = some (.pointer (some ⟨ga, 0, none⟩))) (ka0 : W.cell? ⟨ga, 0, none⟩ = some (.int .i64 a.f0)) (ka1 : W.cell? ⟨ga, 1, none⟩ = some (.int .i64 a.f1)) : StepOK Try.prog ops W B DS PS o 79 (fun _ v => v = .agg #[.int .i64 a.f0, .int .i64 a.f1]) := by
 intro Q base ac w hB hbel hsz hn hfar
 obtain ⟨dst, op, ty, pos, after, guard⟩ := o
 simp only at hop hd hg
 subst hop hd hg
 refine ⟨rfl, ?_⟩
 have e12 := (hfar 12 f12).trans (b12 base hB)
 have cka0 := pw_cell_below hbel ka0
 have cka1 := pw_cell_below hbel ka1
 clear hn hfar b12
 go_simp
 exact ⟨_, rfl, (by first | with_reducible rfl | (rw [i64_w]) | (rw [Go.IntKind.wrap_i64]; rfl) | rfl), Below.refl _ _⟩
theorem ps15_s1 (hop : o.op = .load 26 (.tmp 13)) (hd : o.dst = some 80) (hg : o.guard = none) (f13 : 13 ∉ DS) (b13 : ∀ base, B base → base[13]? = some (.pointer (some ⟨gb, 0, none⟩))) (kb0 : W.cell? ⟨gb, 0, none⟩ = some (.int .i64 b.f0)) (kb1 : W.cell? ⟨gb, 1, none⟩ = some (.int .i64 b.f1)) : StepOK Try.prog ops W B DS PS o 80 (fun _ v => v = .agg #[.int .i64 b.f0, .int .i64 b.f1]) := by
 intro Q base ac w hB hbel hsz hn hfar
 obtain ⟨dst, op, ty, pos, after, guard⟩ := o
 simp only at hop hd hg
 subst hop hd hg
 refine ⟨rfl, ?_⟩
 have e13 := (hfar 13 f13).trans (b13 base hB)
 have ckb0 := pw_cell_below hbel kb0
 have ckb1 := pw_cell_below hbel kb1
 clear hn hfar b13
 go_simp
 exact ⟨_, rfl, (by first | with_reducible rfl | (rw [i64_w]) | (rw [Go.IntKind.wrap_i64]; rfl) | rfl), Below.refl _ _⟩
theorem ps15_s2 (hop : o.op = .load 26 (.tmp 14)) (hd : o.dst = some 81) (hg : o.guard = none) (f14 : 14 ∉ DS) (b14 : ∀ base, B base → base[14]? = some (.pointer (some ⟨gc, 0, none⟩))) (kc0 : W.cell? ⟨gc, 0, none⟩ = some (.int .i64 c.f0)) (kc1 : W.cell? ⟨gc, 1, none⟩ = some (.int .i64 c.f1)) : StepOK Try.prog ops W B DS PS o 81 (fun _ v => v = .agg #[.int .i64 c.f0, .int .i64 c.f1]) := by
 intro Q base ac w hB hbel hsz hn hfar
 obtain ⟨dst, op, ty, pos, after, guard⟩ := o
 simp only at hop hd hg
 subst hop hd hg
 refine ⟨rfl, ?_⟩
 have e14 := (hfar 14 f14).trans (b14 base hB)
 have ckc0 := pw_cell_below hbel kc0
 have ckc1 := pw_cell_below hbel kc1
 clear hn hfar b14
 go_simp
 exact ⟨_, rfl, (by first | with_reducible rfl | (rw [i64_w]) | (rw [Go.IntKind.wrap_i64]; rfl) | rfl), Below.refl _ _⟩
theorem ps15_s3 (hop : o.op = .call { callee := Go.Callee.value (.func 6), args := #[.tmp 79, .tmp 80, .tmp 81], argTypes := #[26, 26, 26] }) (hd : o.dst = some 82) (hg : o.guard = none) (n0 : 0 ∈ needsOf .any o) (d0 : DS[0]? = some 79) (p0 : PS[0]? = some (fun _ v => v = .agg #[.int .i64 a.f0, .int .i64 a.f1])) (n1 : 1 ∈ needsOf .any o) (d1 : DS[1]? = some 80) (p1 : PS[1]? = some (fun _ v => v = .agg #[.int .i64 b.f0, .int .i64 b.f1])) (n2 : 2 ∈ needsOf .any o) (d2 : DS[2]? = some 81) (p2 : PS[2]? = some (fun _ v => v = .agg #[.int .i64 c.f0, .int .i64 c.f1])) : StepOK Try.prog ops W B DS PS o 82 (fun _ v => v = .int .i64 (turnP a b c)) := by
 intro Q base ac w hB hbel hsz hn hfar
 obtain ⟨dst, op, ty, pos, after, guard⟩ := o
 simp only at hop hd hg
 subst hop hd hg
 refine ⟨rfl, ?_⟩
 obtain ⟨v0, e0, rfl⟩ := hn 0 n0 _ _ d0 p0
 obtain ⟨v1, e1, rfl⟩ := hn 1 n1 _ _ d1 p1
 obtain ⟨v2, e2, rfl⟩ := hn 2 n2 _ _ d2 p2
 clear hn hfar
 go_simp
 go_at_call 6
 refine (turn_calls a b c _).mono ?_
 rintro e w2 ⟨rfl, hb2⟩
 exact ⟨_, rfl, rfl, hb2⟩
theorem ps15_s4 (hop : o.op = .load 26 (.tmp 12)) (hd : o.dst = some 83) (hg : o.guard = none) (f12 : 12 ∉ DS) (b12 : ∀ base, B base → base[12]? = some (.pointer (some ⟨ga, 0, none⟩))) (ka0 : W.cell? ⟨ga, 0, none⟩ = some (.int .i64 a.f0)) (ka1 : W.cell? ⟨ga, 1, none⟩ = some (.int .i64 a.f1)) : StepOK Try.prog ops W B DS PS o 83 (fun _ v => v = .agg #[.int .i64 a.f0, .int .i64 a.f1]) := by
 intro Q base ac w hB hbel hsz hn hfar
 obtain ⟨dst, op, ty, pos, after, guard⟩ := o
 simp only at hop hd hg
 subst hop hd hg
 refine ⟨rfl, ?_⟩
 have e12 := (hfar 12 f12).trans (b12 base hB)
 have cka0 := pw_cell_below hbel ka0
 have cka1 := pw_cell_below hbel ka1
 clear hn hfar b12
 go_simp
 exact ⟨_, rfl, (by first | with_reducible rfl | (rw [i64_w]) | (rw [Go.IntKind.wrap_i64]; rfl) | rfl), Below.refl _ _⟩
theorem ps15_s5 (hop : o.op = .load 26 (.tmp 13)) (hd : o.dst = some 84) (hg : o.guard = none) (f13 : 13 ∉ DS) (b13 : ∀ base, B base → base[13]? = some (.pointer (some ⟨gb, 0, none⟩))) (kb0 : W.cell? ⟨gb, 0, none⟩ = some (.int .i64 b.f0)) (kb1 : W.cell? ⟨gb, 1, none⟩ = some (.int .i64 b.f1)) : StepOK Try.prog ops W B DS PS o 84 (fun _ v => v = .agg #[.int .i64 b.f0, .int .i64 b.f1]) := by
 intro Q base ac w hB hbel hsz hn hfar
 obtain ⟨dst, op, ty, pos, after, guard⟩ := o
 simp only at hop hd hg
 subst hop hd hg
 refine ⟨rfl, ?_⟩
 have e13 := (hfar 13 f13).trans (b13 base hB)
 have ckb0 := pw_cell_below hbel kb0
 have ckb1 := pw_cell_below hbel kb1
 clear hn hfar b13
 go_simp
 exact ⟨_, rfl, (by first | with_reducible rfl | (rw [i64_w]) | (rw [Go.IntKind.wrap_i64]; rfl) | rfl), Below.refl _ _⟩
theorem ps15_s6 (hop : o.op = .load 26 (.tmp 14)) (hd : o.dst = some 85) (hg : o.guard = none) (f14 : 14 ∉ DS) (b14 : ∀ base, B base → base[14]? = some (.pointer (some ⟨gc, 0, none⟩))) (kc0 : W.cell? ⟨gc, 0, none⟩ = some (.int .i64 c.f0)) (kc1 : W.cell? ⟨gc, 1, none⟩ = some (.int .i64 c.f1)) : StepOK Try.prog ops W B DS PS o 85 (fun _ v => v = .agg #[.int .i64 c.f0, .int .i64 c.f1]) := by
 intro Q base ac w hB hbel hsz hn hfar
 obtain ⟨dst, op, ty, pos, after, guard⟩ := o
 simp only at hop hd hg
 subst hop hd hg
 refine ⟨rfl, ?_⟩
 have e14 := (hfar 14 f14).trans (b14 base hB)
 have ckc0 := pw_cell_below hbel kc0
 have ckc1 := pw_cell_below hbel kc1
 clear hn hfar b14
 go_simp
 exact ⟨_, rfl, (by first | with_reducible rfl | (rw [i64_w]) | (rw [Go.IntKind.wrap_i64]; rfl) | rfl), Below.refl _ _⟩
theorem ps15_s7 (hop : o.op = .call { callee := Go.Callee.value (.func 7), args := #[.tmp 83, .tmp 84, .tmp 85], argTypes := #[26, 26, 26] }) (hd : o.dst = some 86) (hg : o.guard = none) (n4 : 4 ∈ needsOf .any o) (d4 : DS[4]? = some 83) (p4 : PS[4]? = some (fun _ v => v = .agg #[.int .i64 a.f0, .int .i64 a.f1])) (n5 : 5 ∈ needsOf .any o) (d5 : DS[5]? = some 84) (p5 : PS[5]? = some (fun _ v => v = .agg #[.int .i64 b.f0, .int .i64 b.f1])) (n6 : 6 ∈ needsOf .any o) (d6 : DS[6]? = some 85) (p6 : PS[6]? = some (fun _ v => v = .agg #[.int .i64 c.f0, .int .i64 c.f1])) : StepOK Try.prog ops W B DS PS o 86 (fun _ v => v = .int .i64 (turnP a b c)) := by
 intro Q base ac w hB hbel hsz hn hfar
 obtain ⟨dst, op, ty, pos, after, guard⟩ := o
 simp only at hop hd hg
 subst hop hd hg
 refine ⟨rfl, ?_⟩
 obtain ⟨v4, e4, rfl⟩ := hn 4 n4 _ _ d4 p4
 obtain ⟨v5, e5, rfl⟩ := hn 5 n5 _ _ d5 p5
 obtain ⟨v6, e6, rfl⟩ := hn 6 n6 _ _ d6 p6
 clear hn hfar
 go_simp
 go_at_call 7
 refine (rturn_calls a b c _).mono ?_
 rintro e w2 ⟨rfl, hb2⟩
 exact ⟨_, rfl, rfl, hb2⟩
theorem ps15_s8 (hop : o.op = .binOp Go.BinOp.neq 3 (.tmp 82) (.tmp 86) 3) (hd : o.dst = some 87) (hg : o.guard = none) (n3 : 3 ∈ needsOf .any o) (d3 : DS[3]? = some 82) (p3 : PS[3]? = some (fun _ v => v = .int .i64 (turnP a b c))) (n7 : 7 ∈ needsOf .any o) (d7 : DS[7]? = some 86) (p7 : PS[7]? = some (fun _ v => v = .int .i64 (turnP a b c))) : StepOK Try.prog ops W B DS PS o 87 (fun _ v => v = .bool false) := by
 intro Q base ac w hB hbel hsz hn hfar
 obtain ⟨dst, op, ty, pos, after, guard⟩ := o
 simp only at hop hd hg
 subst hop hd hg
 refine ⟨rfl, ?_⟩
 obtain ⟨v3, e3, rfl⟩ := hn 3 n3 _ _ d3 p3
 obtain ⟨v7, e7, rfl⟩ := hn 7 n7 _ _ d7 p7
 clear hn hfar
 go_simp
 exact ⟨_, rfl, (by first | with_reducible rfl | (rw [i64_w]) | (rw [Go.IntKind.wrap_i64]; rfl) | rfl), Below.refl _ _⟩
theorem ps15_s9 (hop : o.op = .move (.tmp 87)) (hd : o.dst = some 88) (hg : o.guard = none) (n8 : 8 ∈ needsOf .any o) (d8 : DS[8]? = some 87) (p8 : PS[8]? = some (fun _ v => v = .bool false)) : StepOK Try.prog ops W B DS PS o 88 (fun _ v => v = .bool false) := by
 intro Q base ac w hB hbel hsz hn hfar
 obtain ⟨dst, op, ty, pos, after, guard⟩ := o
 simp only at hop hd hg
 subst hop hd hg
 refine ⟨rfl, ?_⟩
 obtain ⟨v8, e8, rfl⟩ := hn 8 n8 _ _ d8 p8
 clear hn hfar
 go_simp
 exact ⟨_, rfl, (by first | with_reducible rfl | (rw [i64_w]) | (rw [Go.IntKind.wrap_i64]; rfl) | rfl), Below.refl _ _⟩
theorem ps15_s10 (hop : o.op = .load 26 (.tmp 12)) (hd : o.dst = some 89) (hg : o.guard = some (9, false)) (hw : ∃ og, ops[9]? = some og ∧ og.dst = some 88) (n9 : 9 ∈ needsOf .any o) (d9 : DS[9]? = some 88) (p9 : PS[9]? = some (fun _ v => v = .bool false)) (f12 : 12 ∉ DS) (b12 : ∀ base, B base → base[12]? = some (.pointer (some ⟨ga, 0, none⟩))) (ka0 : W.cell? ⟨ga, 0, none⟩ = some (.int .i64 a.f0)) (ka1 : W.cell? ⟨ga, 1, none⟩ = some (.int .i64 a.f1)) : StepOK Try.prog ops W B DS PS o 89 (fun _ v => v = .agg #[.int .i64 a.f0, .int .i64 a.f1]) := by
 intro Q base ac w hB hbel hsz hn hfar
 obtain ⟨dst, op, ty, pos, after, guard⟩ := o
 simp only at hop hd hg
 subst hop hd hg
 refine ⟨rfl, ?_⟩
 have e12 := (hfar 12 f12).trans (b12 base hB)
 obtain ⟨v9, e9, rfl⟩ := hn 9 n9 _ _ d9 p9
 have cka0 := pw_cell_below hbel ka0
 have cka1 := pw_cell_below hbel ka1
 clear hn hfar b12
 obtain ⟨og, hog, hod⟩ := hw
 rw [if_pos (want_on rfl hog hod e9)]
 go_simp
 exact ⟨_, rfl, (by first | with_reducible rfl | (rw [i64_w]) | (rw [Go.IntKind.wrap_i64]; rfl) | rfl), Below.refl _ _⟩
theorem ps15_s11 (hop : o.op = .load 26 (.tmp 13)) (hd : o.dst = some 90) (hg : o.guard = some (9, false)) (hw : ∃ og, ops[9]? = some og ∧ og.dst = some 88) (n9 : 9 ∈ needsOf .any o) (d9 : DS[9]? = some 88) (p9 : PS[9]? = some (fun _ v => v = .bool false)) (f13 : 13 ∉ DS) (b13 : ∀ base, B base → base[13]? = some (.pointer (some ⟨gb, 0, none⟩))) (kb0 : W.cell? ⟨gb, 0, none⟩ = some (.int .i64 b.f0)) (kb1 : W.cell? ⟨gb, 1, none⟩ = some (.int .i64 b.f1)) : StepOK Try.prog ops W B DS PS o 90 (fun _ v => v = .agg #[.int .i64 b.f0, .int .i64 b.f1]) := by
 intro Q base ac w hB hbel hsz hn hfar
 obtain ⟨dst, op, ty, pos, after, guard⟩ := o
 simp only at hop hd hg
 subst hop hd hg
 refine ⟨rfl, ?_⟩
 have e13 := (hfar 13 f13).trans (b13 base hB)
 obtain ⟨v9, e9, rfl⟩ := hn 9 n9 _ _ d9 p9
 have ckb0 := pw_cell_below hbel kb0
 have ckb1 := pw_cell_below hbel kb1
 clear hn hfar b13
 obtain ⟨og, hog, hod⟩ := hw
 rw [if_pos (want_on rfl hog hod e9)]
 go_simp
 exact ⟨_, rfl, (by first | with_reducible rfl | (rw [i64_w]) | (rw [Go.IntKind.wrap_i64]; rfl) | rfl), Below.refl _ _⟩
theorem ps15_s12 (hop : o.op = .load 26 (.tmp 14)) (hd : o.dst = some 91) (hg : o.guard = some (9, false)) (hw : ∃ og, ops[9]? = some og ∧ og.dst = some 88) (n9 : 9 ∈ needsOf .any o) (d9 : DS[9]? = some 88) (p9 : PS[9]? = some (fun _ v => v = .bool false)) (f14 : 14 ∉ DS) (b14 : ∀ base, B base → base[14]? = some (.pointer (some ⟨gc, 0, none⟩))) (kc0 : W.cell? ⟨gc, 0, none⟩ = some (.int .i64 c.f0)) (kc1 : W.cell? ⟨gc, 1, none⟩ = some (.int .i64 c.f1)) : StepOK Try.prog ops W B DS PS o 91 (fun _ v => v = .agg #[.int .i64 c.f0, .int .i64 c.f1]) := by
 intro Q base ac w hB hbel hsz hn hfar
 obtain ⟨dst, op, ty, pos, after, guard⟩ := o
 simp only at hop hd hg
 subst hop hd hg
 refine ⟨rfl, ?_⟩
 have e14 := (hfar 14 f14).trans (b14 base hB)
 obtain ⟨v9, e9, rfl⟩ := hn 9 n9 _ _ d9 p9
 have ckc0 := pw_cell_below hbel kc0
 have ckc1 := pw_cell_below hbel kc1
 clear hn hfar b14
 obtain ⟨og, hog, hod⟩ := hw
 rw [if_pos (want_on rfl hog hod e9)]
 go_simp
 exact ⟨_, rfl, (by first | with_reducible rfl | (rw [i64_w]) | (rw [Go.IntKind.wrap_i64]; rfl) | rfl), Below.refl _ _⟩
theorem ps15_s13 (hop : o.op = .load 26 (.tmp 15)) (hd : o.dst = some 92) (hg : o.guard = some (9, false)) (hw : ∃ og, ops[9]? = some og ∧ og.dst = some 88) (n9 : 9 ∈ needsOf .any o) (d9 : DS[9]? = some 88) (p9 : PS[9]? = some (fun _ v => v = .bool false)) (f15 : 15 ∉ DS) (b15 : ∀ base, B base → base[15]? = some (.pointer (some ⟨gd, 0, none⟩))) (kd0 : W.cell? ⟨gd, 0, none⟩ = some (.int .i64 d.f0)) (kd1 : W.cell? ⟨gd, 1, none⟩ = some (.int .i64 d.f1)) : StepOK Try.prog ops W B DS PS o 92 (fun _ v => v = .agg #[.int .i64 d.f0, .int .i64 d.f1]) := by
 intro Q base ac w hB hbel hsz hn hfar
 obtain ⟨dst, op, ty, pos, after, guard⟩ := o
 simp only at hop hd hg
 subst hop hd hg
 refine ⟨rfl, ?_⟩
 have e15 := (hfar 15 f15).trans (b15 base hB)
 obtain ⟨v9, e9, rfl⟩ := hn 9 n9 _ _ d9 p9
 have ckd0 := pw_cell_below hbel kd0
 have ckd1 := pw_cell_below hbel kd1
 clear hn hfar b15
 obtain ⟨og, hog, hod⟩ := hw
 rw [if_pos (want_on rfl hog hod e9)]
 go_simp
 exact ⟨_, rfl, (by first | with_reducible rfl | (rw [i64_w]) | (rw [Go.IntKind.wrap_i64]; rfl) | rfl), Below.refl _ _⟩
theorem ps15_s14 (hop : o.op = .call { callee := Go.Callee.value (.func 8), args := #[.tmp 89, .tmp 90, .tmp 91, .tmp 92], argTypes := #[26, 26, 26, 26] }) (hd : o.dst = some 93) (hg : o.guard = some (9, false)) (hw : ∃ og, ops[9]? = some og ∧ og.dst = some 88) (n10 : 10 ∈ needsOf .any o) (d10 : DS[10]? = some 89) (p10 : PS[10]? = some (fun _ v => v = .agg #[.int .i64 a.f0, .int .i64 a.f1])) (n11 : 11 ∈ needsOf .any o) (d11 : DS[11]? = some 90) (p11 : PS[11]? = some (fun _ v => v = .agg #[.int .i64 b.f0, .int .i64 b.f1])) (n12 : 12 ∈ needsOf .any o) (d12 : DS[12]? = some 91) (p12 : PS[12]? = some (fun _ v => v = .agg #[.int .i64 c.f0, .int .i64 c.f1])) (n13 : 13 ∈ needsOf .any o) (d13 : DS[13]? = some 92) (p13 : PS[13]? = some (fun _ v => v = .agg #[.int .i64 d.f0, .int .i64 d.f1])) (n9 : 9 ∈ needsOf .any o) (d9 : DS[9]? = some 88) (p9 : PS[9]? = some (fun _ v => v = .bool false)) : StepOK Try.prog ops W B DS PS o 93 (fun _ v => v = .bool (crossP a b c d)) := by
 intro Q base ac w hB hbel hsz hn hfar
 obtain ⟨dst, op, ty, pos, after, guard⟩ := o
 simp only at hop hd hg
 subst hop hd hg
 refine ⟨rfl, ?_⟩
 obtain ⟨v10, e10, rfl⟩ := hn 10 n10 _ _ d10 p10
 obtain ⟨v11, e11, rfl⟩ := hn 11 n11 _ _ d11 p11
 obtain ⟨v12, e12, rfl⟩ := hn 12 n12 _ _ d12 p12
 obtain ⟨v13, e13, rfl⟩ := hn 13 n13 _ _ d13 p13
 obtain ⟨v9, e9, rfl⟩ := hn 9 n9 _ _ d9 p9
 clear hn hfar
 obtain ⟨og, hog, hod⟩ := hw
 rw [if_pos (want_on rfl hog hod e9)]
 go_simp
 go_at_call 8
 refine (cross_calls a b c d _).mono ?_
 rintro e w2 ⟨rfl, hb2⟩
 exact ⟨_, rfl, rfl, hb2⟩
theorem ps15_s15 (hop : o.op = .load 26 (.tmp 12)) (hd : o.dst = some 94) (hg : o.guard = some (9, false)) (hw : ∃ og, ops[9]? = some og ∧ og.dst = some 88) (n9 : 9 ∈ needsOf .any o) (d9 : DS[9]? = some 88) (p9 : PS[9]? = some (fun _ v => v = .bool false)) (f12 : 12 ∉ DS) (b12 : ∀ base, B base → base[12]? = some (.pointer (some ⟨ga, 0, none⟩))) (ka0 : W.cell? ⟨ga, 0, none⟩ = some (.int .i64 a.f0)) (ka1 : W.cell? ⟨ga, 1, none⟩ = some (.int .i64 a.f1)) : StepOK Try.prog ops W B DS PS o 94 (fun _ v => v = .agg #[.int .i64 a.f0, .int .i64 a.f1]) := by
 intro Q base ac w hB hbel hsz hn hfar
 obtain ⟨dst, op, ty, pos, after, guard⟩ := o
 simp only at hop hd hg
 subst hop hd hg
 refine ⟨rfl, ?_⟩
 have e12 := (hfar 12 f12).trans (b12 base hB)
 obtain ⟨v9, e9, rfl⟩ := hn 9 n9 _ _ d9 p9
 have cka0 := pw_cell_below hbel ka0
 have cka1 := pw_cell_below hbel ka1
 clear hn hfar b12
 obtain ⟨og, hog, hod⟩ := hw
 rw [if_pos (want_on rfl hog hod e9)]
 go_simp
 exact ⟨_, rfl, (by first | with_reducible rfl | (rw [i64_w]) | (rw [Go.IntKind.wrap_i64]; rfl) | rfl), Below.refl _ _⟩
theorem ps15_s16 (hop : o.op = .load 26 (.tmp 13)) (hd : o.dst = some 95) (hg : o.guard = some (9, false)) (hw : ∃ og, ops[9]? = some og ∧ og.dst = some 88) (n9 : 9 ∈ needsOf .any o) (d9 : DS[9]? = some 88) (p9 : PS[9]? = some (fun _ v => v = .bool false)) (f13 : 13 ∉ DS) (b13 : ∀ base, B base → base[13]? = some (.pointer (some ⟨gb, 0, none⟩))) (kb0 : W.cell? ⟨gb, 0, none⟩ = some (.int .i64 b.f0)) (kb1 : W.cell? ⟨gb, 1, none⟩ = some (.int .i64 b.f1)) : StepOK Try.prog ops W B DS PS o 95 (fun _ v => v = .agg #[.int .i64 b.f0, .int .i64 b.f1]) := by
 intro Q base ac w hB hbel hsz hn hfar
 obtain ⟨dst, op, ty, pos, after, guard⟩ := o
 simp only at hop hd hg
 subst hop hd hg
 refine ⟨rfl, ?_⟩
 have e13 := (hfar 13 f13).trans (b13 base hB)
 obtain ⟨v9, e9, rfl⟩ := hn 9 n9 _ _ d9 p9
 have ckb0 := pw_cell_below hbel kb0
 have ckb1 := pw_cell_below hbel kb1
 clear hn hfar b13
 obtain ⟨og, hog, hod⟩ := hw
 rw [if_pos (want_on rfl hog hod e9)]
 go_simp
 exact ⟨_, rfl, (by first | with_reducible rfl | (rw [i64_w]) | (rw [Go.IntKind.wrap_i64]; rfl) | rfl), Below.refl _ _⟩
theorem ps15_s17 (hop : o.op = .load 26 (.tmp 14)) (hd : o.dst = some 96) (hg : o.guard = some (9, false)) (hw : ∃ og, ops[9]? = some og ∧ og.dst = some 88) (n9 : 9 ∈ needsOf .any o) (d9 : DS[9]? = some 88) (p9 : PS[9]? = some (fun _ v => v = .bool false)) (f14 : 14 ∉ DS) (b14 : ∀ base, B base → base[14]? = some (.pointer (some ⟨gc, 0, none⟩))) (kc0 : W.cell? ⟨gc, 0, none⟩ = some (.int .i64 c.f0)) (kc1 : W.cell? ⟨gc, 1, none⟩ = some (.int .i64 c.f1)) : StepOK Try.prog ops W B DS PS o 96 (fun _ v => v = .agg #[.int .i64 c.f0, .int .i64 c.f1]) := by
 intro Q base ac w hB hbel hsz hn hfar
 obtain ⟨dst, op, ty, pos, after, guard⟩ := o
 simp only at hop hd hg
 subst hop hd hg
 refine ⟨rfl, ?_⟩
 have e14 := (hfar 14 f14).trans (b14 base hB)
 obtain ⟨v9, e9, rfl⟩ := hn 9 n9 _ _ d9 p9
 have ckc0 := pw_cell_below hbel kc0
 have ckc1 := pw_cell_below hbel kc1
 clear hn hfar b14
 obtain ⟨og, hog, hod⟩ := hw
 rw [if_pos (want_on rfl hog hod e9)]
 go_simp
 exact ⟨_, rfl, (by first | with_reducible rfl | (rw [i64_w]) | (rw [Go.IntKind.wrap_i64]; rfl) | rfl), Below.refl _ _⟩
theorem ps15_s18 (hop : o.op = .load 26 (.tmp 15)) (hd : o.dst = some 97) (hg : o.guard = some (9, false)) (hw : ∃ og, ops[9]? = some og ∧ og.dst = some 88) (n9 : 9 ∈ needsOf .any o) (d9 : DS[9]? = some 88) (p9 : PS[9]? = some (fun _ v => v = .bool false)) (f15 : 15 ∉ DS) (b15 : ∀ base, B base → base[15]? = some (.pointer (some ⟨gd, 0, none⟩))) (kd0 : W.cell? ⟨gd, 0, none⟩ = some (.int .i64 d.f0)) (kd1 : W.cell? ⟨gd, 1, none⟩ = some (.int .i64 d.f1)) : StepOK Try.prog ops W B DS PS o 97 (fun _ v => v = .agg #[.int .i64 d.f0, .int .i64 d.f1]) := by
 intro Q base ac w hB hbel hsz hn hfar
 obtain ⟨dst, op, ty, pos, after, guard⟩ := o
 simp only at hop hd hg
 subst hop hd hg
 refine ⟨rfl, ?_⟩
 have e15 := (hfar 15 f15).trans (b15 base hB)
 obtain ⟨v9, e9, rfl⟩ := hn 9 n9 _ _ d9 p9
 have ckd0 := pw_cell_below hbel kd0
 have ckd1 := pw_cell_below hbel kd1
 clear hn hfar b15
 obtain ⟨og, hog, hod⟩ := hw
 rw [if_pos (want_on rfl hog hod e9)]
 go_simp
 exact ⟨_, rfl, (by first | with_reducible rfl | (rw [i64_w]) | (rw [Go.IntKind.wrap_i64]; rfl) | rfl), Below.refl _ _⟩
theorem ps15_s19 (hop : o.op = .call { callee := Go.Callee.value (.func 9), args := #[.tmp 94, .tmp 95, .tmp 96, .tmp 97], argTypes := #[26, 26, 26, 26] }) (hd : o.dst = some 98) (hg : o.guard = some (9, false)) (hw : ∃ og, ops[9]? = some og ∧ og.dst = some 88) (n15 : 15 ∈ needsOf .any o) (d15 : DS[15]? = some 94) (p15 : PS[15]? = some (fun _ v => v = .agg #[.int .i64 a.f0, .int .i64 a.f1])) (n16 : 16 ∈ needsOf .any o) (d16 : DS[16]? = some 95) (p16 : PS[16]? = some (fun _ v => v = .agg #[.int .i64 b.f0, .int .i64 b.f1])) (n17 : 17 ∈ needsOf .any o) (d17 : DS[17]? = some 96) (p17 : PS[17]? = some (fun _ v => v = .agg #[.int .i64 c.f0, .int .i64 c.f1])) (n18 : 18 ∈ needsOf .any o) (d18 : DS[18]? = some 97) (p18 : PS[18]? = some (fun _ v => v = .agg #[.int .i64 d.f0, .int .i64 d.f1])) (n9 : 9 ∈ needsOf .any o) (d9 : DS[9]? = some 88) (p9 : PS[9]? = some (fun _ v => v = .bool false)) : StepOK Try.prog ops W B DS PS o 98 (fun _ v => v = .bool (crossP a b c d)) := by
 intro Q base ac w hB hbel hsz hn hfar
 obtain ⟨dst, op, ty, pos, after, guard⟩ := o
 simp only at hop hd hg
 subst hop hd hg
 refine ⟨rfl, ?_⟩
 obtain ⟨v15, e15, rfl⟩ := hn 15 n15 _ _ d15 p15
 obtain ⟨v16, e16, rfl⟩ := hn 16 n16 _ _ d16 p16
 obtain ⟨v17, e17, rfl⟩ := hn 17 n17 _ _ d17 p17
 obtain ⟨v18, e18, rfl⟩ := hn 18 n18 _ _ d18 p18
 obtain ⟨v9, e9, rfl⟩ := hn 9 n9 _ _ d9 p9
 clear hn hfar
 obtain ⟨og, hog, hod⟩ := hw
 rw [if_pos (want_on rfl hog hod e9)]
 go_simp
 go_at_call 9
 refine (rcross_calls a b c d _).mono ?_
 rintro e w2 ⟨rfl, hb2⟩
 exact ⟨_, rfl, rfl, hb2⟩
theorem ps15_s20 (hop : o.op = .binOp Go.BinOp.neq 4 (.tmp 93) (.tmp 98) 4) (hd : o.dst = some 99) (hg : o.guard = some (9, false)) (hw : ∃ og, ops[9]? = some og ∧ og.dst = some 88) (n14 : 14 ∈ needsOf .any o) (d14 : DS[14]? = some 93) (p14 : PS[14]? = some (fun _ v => v = .bool (crossP a b c d))) (n19 : 19 ∈ needsOf .any o) (d19 : DS[19]? = some 98) (p19 : PS[19]? = some (fun _ v => v = .bool (crossP a b c d))) (n9 : 9 ∈ needsOf .any o) (d9 : DS[9]? = some 88) (p9 : PS[9]? = some (fun _ v => v = .bool false)) : StepOK Try.prog ops W B DS PS o 99 (fun _ v => v = .bool false) := by
 intro Q base ac w hB hbel hsz hn hfar
 obtain ⟨dst, op, ty, pos, after, guard⟩ := o
 simp only at hop hd hg
 subst hop hd hg
 refine ⟨rfl, ?_⟩
 obtain ⟨v14, e14, rfl⟩ := hn 14 n14 _ _ d14 p14
 obtain ⟨v19, e19, rfl⟩ := hn 19 n19 _ _ d19 p19
 obtain ⟨v9, e9, rfl⟩ := hn 9 n9 _ _ d9 p9
 clear hn hfar
 obtain ⟨og, hog, hod⟩ := hw
 rw [if_pos (want_on rfl hog hod e9)]
 go_simp
 exact ⟨_, rfl, (by first | with_reducible rfl | (rw [i64_w]) | (rw [Go.IntKind.wrap_i64]; rfl) | rfl), Below.refl _ _⟩
theorem ps15_s21 (hop : o.op = .pick (.tmp 88) (.const (.bool true)) (.tmp 99)) (hd : o.dst = some 100) (hg : o.guard = none) (n9 : 9 ∈ needsOf .any o) (d9 : DS[9]? = some 88) (p9 : PS[9]? = some (fun _ v => v = .bool false)) (n20 : 20 ∈ needsOf .any o) (d20 : DS[20]? = some 99) (p20 : PS[20]? = some (fun _ v => v = .bool false)) : StepOK Try.prog ops W B DS PS o 100 (fun _ v => v = .bool false) := by
 intro Q base ac w hB hbel hsz hn hfar
 obtain ⟨dst, op, ty, pos, after, guard⟩ := o
 simp only at hop hd hg
 subst hop hd hg
 refine ⟨rfl, ?_⟩
 obtain ⟨v9, e9, rfl⟩ := hn 9 n9 _ _ d9 p9
 obtain ⟨v20, e20, rfl⟩ := hn 20 n20 _ _ d20 p20
 clear hn hfar
 go_simp
 exact ⟨_, rfl, (by first | with_reducible rfl | (rw [i64_w]) | (rw [Go.IntKind.wrap_i64]; rfl) | rfl), Below.refl _ _⟩
theorem ps15_s22 (hop : o.op = .move (.tmp 100)) (hd : o.dst = some 101) (hg : o.guard = none) (n21 : 21 ∈ needsOf .any o) (d21 : DS[21]? = some 100) (p21 : PS[21]? = some (fun _ v => v = .bool false)) : StepOK Try.prog ops W B DS PS o 101 (fun _ v => v = .bool false) := by
 intro Q base ac w hB hbel hsz hn hfar
 obtain ⟨dst, op, ty, pos, after, guard⟩ := o
 simp only at hop hd hg
 subst hop hd hg
 refine ⟨rfl, ?_⟩
 obtain ⟨v21, e21, rfl⟩ := hn 21 n21 _ _ d21 p21
 clear hn hfar
 go_simp
 exact ⟨_, rfl, (by first | with_reducible rfl | (rw [i64_w]) | (rw [Go.IntKind.wrap_i64]; rfl) | rfl), Below.refl _ _⟩
theorem ps15_s23 (hop : o.op = .load 26 (.tmp 12)) (hd : o.dst = some 102) (hg : o.guard = some (22, false)) (hw : ∃ og, ops[22]? = some og ∧ og.dst = some 101) (n22 : 22 ∈ needsOf .any o) (d22 : DS[22]? = some 101) (p22 : PS[22]? = some (fun _ v => v = .bool false)) (f12 : 12 ∉ DS) (b12 : ∀ base, B base → base[12]? = some (.pointer (some ⟨ga, 0, none⟩))) (ka0 : W.cell? ⟨ga, 0, none⟩ = some (.int .i64 a.f0)) (ka1 : W.cell? ⟨ga, 1, none⟩ = some (.int .i64 a.f1)) : StepOK Try.prog ops W B DS PS o 102 (fun _ v => v = .agg #[.int .i64 a.f0, .int .i64 a.f1]) := by
 intro Q base ac w hB hbel hsz hn hfar
 obtain ⟨dst, op, ty, pos, after, guard⟩ := o
 simp only at hop hd hg
 subst hop hd hg
 refine ⟨rfl, ?_⟩
 have e12 := (hfar 12 f12).trans (b12 base hB)
 obtain ⟨v22, e22, rfl⟩ := hn 22 n22 _ _ d22 p22
 have cka0 := pw_cell_below hbel ka0
 have cka1 := pw_cell_below hbel ka1
 clear hn hfar b12
 obtain ⟨og, hog, hod⟩ := hw
 rw [if_pos (want_on rfl hog hod e22)]
 go_simp
 exact ⟨_, rfl, (by first | with_reducible rfl | (rw [i64_w]) | (rw [Go.IntKind.wrap_i64]; rfl) | rfl), Below.refl _ _⟩
theorem ps15_s24 (hop : o.op = .load 26 (.tmp 14)) (hd : o.dst = some 103) (hg : o.guard = some (22, false)) (hw : ∃ og, ops[22]? = some og ∧ og.dst = some 101) (n22 : 22 ∈ needsOf .any o) (d22 : DS[22]? = some 101) (p22 : PS[22]? = some (fun _ v => v = .bool false)) (f14 : 14 ∉ DS) (b14 : ∀ base, B base → base[14]? = some (.pointer (some ⟨gc, 0, none⟩))) (kc0 : W.cell? ⟨gc, 0, none⟩ = some (.int .i64 c.f0)) (kc1 : W.cell? ⟨gc, 1, none⟩ = some (.int .i64 c.f1)) : StepOK Try.prog ops W B DS PS o 103 (fun _ v => v = .agg #[.int .i64 c.f0, .int .i64 c.f1]) := by
 intro Q base ac w hB hbel hsz hn hfar
 obtain ⟨dst, op, ty, pos, after, guard⟩ := o
 simp only at hop hd hg
 subst hop hd hg
 refine ⟨rfl, ?_⟩
 have e14 := (hfar 14 f14).trans (b14 base hB)
 obtain ⟨v22, e22, rfl⟩ := hn 22 n22 _ _ d22 p22
 have ckc0 := pw_cell_below hbel kc0
 have ckc1 := pw_cell_below hbel kc1
 clear hn hfar b14
 obtain ⟨og, hog, hod⟩ := hw
 rw [if_pos (want_on rfl hog hod e22)]
 go_simp
 exact ⟨_, rfl, (by first | with_reducible rfl | (rw [i64_w]) | (rw [Go.IntKind.wrap_i64]; rfl) | rfl), Below.refl _ _⟩
theorem ps15_s25 (hop : o.op = .load 26 (.tmp 15)) (hd : o.dst = some 104) (hg : o.guard = some (22, false)) (hw : ∃ og, ops[22]? = some og ∧ og.dst = some 101) (n22 : 22 ∈ needsOf .any o) (d22 : DS[22]? = some 101) (p22 : PS[22]? = some (fun _ v => v = .bool false)) (f15 : 15 ∉ DS) (b15 : ∀ base, B base → base[15]? = some (.pointer (some ⟨gd, 0, none⟩))) (kd0 : W.cell? ⟨gd, 0, none⟩ = some (.int .i64 d.f0)) (kd1 : W.cell? ⟨gd, 1, none⟩ = some (.int .i64 d.f1)) : StepOK Try.prog ops W B DS PS o 104 (fun _ v => v = .agg #[.int .i64 d.f0, .int .i64 d.f1]) := by
 intro Q base ac w hB hbel hsz hn hfar
 obtain ⟨dst, op, ty, pos, after, guard⟩ := o
 simp only at hop hd hg
 subst hop hd hg
 refine ⟨rfl, ?_⟩
 have e15 := (hfar 15 f15).trans (b15 base hB)
 obtain ⟨v22, e22, rfl⟩ := hn 22 n22 _ _ d22 p22
 have ckd0 := pw_cell_below hbel kd0
 have ckd1 := pw_cell_below hbel kd1
 clear hn hfar b15
 obtain ⟨og, hog, hod⟩ := hw
 rw [if_pos (want_on rfl hog hod e22)]
 go_simp
 exact ⟨_, rfl, (by first | with_reducible rfl | (rw [i64_w]) | (rw [Go.IntKind.wrap_i64]; rfl) | rfl), Below.refl _ _⟩
theorem ps15_s26 (hop : o.op = .load 26 (.tmp 15)) (hd : o.dst = some 105) (hg : o.guard = some (22, false)) (hw : ∃ og, ops[22]? = some og ∧ og.dst = some 101) (n22 : 22 ∈ needsOf .any o) (d22 : DS[22]? = some 101) (p22 : PS[22]? = some (fun _ v => v = .bool false)) (f15 : 15 ∉ DS) (b15 : ∀ base, B base → base[15]? = some (.pointer (some ⟨gd, 0, none⟩))) (kd0 : W.cell? ⟨gd, 0, none⟩ = some (.int .i64 d.f0)) (kd1 : W.cell? ⟨gd, 1, none⟩ = some (.int .i64 d.f1)) : StepOK Try.prog ops W B DS PS o 105 (fun _ v => v = .agg #[.int .i64 d.f0, .int .i64 d.f1]) := by
 intro Q base ac w hB hbel hsz hn hfar
 obtain ⟨dst, op, ty, pos, after, guard⟩ := o
 simp only at hop hd hg
 subst hop hd hg
 refine ⟨rfl, ?_⟩
 have e15 := (hfar 15 f15).trans (b15 base hB)
 obtain ⟨v22, e22, rfl⟩ := hn 22 n22 _ _ d22 p22
 have ckd0 := pw_cell_below hbel kd0
 have ckd1 := pw_cell_below hbel kd1
 clear hn hfar b15
 obtain ⟨og, hog, hod⟩ := hw
 rw [if_pos (want_on rfl hog hod e22)]
 go_simp
 exact ⟨_, rfl, (by first | with_reducible rfl | (rw [i64_w]) | (rw [Go.IntKind.wrap_i64]; rfl) | rfl), Below.refl _ _⟩
theorem ps15_s27 (hop : o.op = .call { callee := Go.Callee.value (.func 8), args := #[.tmp 102, .tmp 103, .tmp 104, .tmp 105], argTypes := #[26, 26, 26, 26] }) (hd : o.dst = some 106) (hg : o.guard = some (22, false)) (hw : ∃ og, ops[22]? = some og ∧ og.dst = some 101) (n23 : 23 ∈ needsOf .any o) (d23 : DS[23]? = some 102) (p23 : PS[23]? = some (fun _ v => v = .agg #[.int .i64 a.f0, .int .i64 a.f1])) (n24 : 24 ∈ needsOf .any o) (d24 : DS[24]? = some 103) (p24 : PS[24]? = some (fun _ v => v = .agg #[.int .i64 c.f0, .int .i64 c.f1])) (n25 : 25 ∈ needsOf .any o) (d25 : DS[25]? = some 104) (p25 : PS[25]? = some (fun _ v => v = .agg #[.int .i64 d.f0, .int .i64 d.f1])) (n26 : 26 ∈ needsOf .any o) (d26 : DS[26]? = some 105) (p26 : PS[26]? = some (fun _ v => v = .agg #[.int .i64 d.f0, .int .i64 d.f1])) (n22 : 22 ∈ needsOf .any o) (d22 : DS[22]? = some 101) (p22 : PS[22]? = some (fun _ v => v = .bool false)) : StepOK Try.prog ops W B DS PS o 106 (fun _ v => v = .bool (crossP a c d d)) := by
 intro Q base ac w hB hbel hsz hn hfar
 obtain ⟨dst, op, ty, pos, after, guard⟩ := o
 simp only at hop hd hg
 subst hop hd hg
 refine ⟨rfl, ?_⟩
 obtain ⟨v23, e23, rfl⟩ := hn 23 n23 _ _ d23 p23
 obtain ⟨v24, e24, rfl⟩ := hn 24 n24 _ _ d24 p24
 obtain ⟨v25, e25, rfl⟩ := hn 25 n25 _ _ d25 p25
 obtain ⟨v26, e26, rfl⟩ := hn 26 n26 _ _ d26 p26
 obtain ⟨v22, e22, rfl⟩ := hn 22 n22 _ _ d22 p22
 clear hn hfar
 obtain ⟨og, hog, hod⟩ := hw
 rw [if_pos (want_on rfl hog hod e22)]
 go_simp
 go_at_call 8
 refine (cross_calls a c d d _).mono ?_
 rintro e w2 ⟨rfl, hb2⟩
 exact ⟨_, rfl, rfl, hb2⟩
theorem ps15_s28 (hop : o.op = .load 26 (.tmp 12)) (hd : o.dst = some 107) (hg : o.guard = some (22, false)) (hw : ∃ og, ops[22]? = some og ∧ og.dst = some 101) (n22 : 22 ∈ needsOf .any o) (d22 : DS[22]? = some 101) (p22 : PS[22]? = some (fun _ v => v = .bool false)) (f12 : 12 ∉ DS) (b12 : ∀ base, B base → base[12]? = some (.pointer (some ⟨ga, 0, none⟩))) (ka0 : W.cell? ⟨ga, 0, none⟩ = some (.int .i64 a.f0)) (ka1 : W.cell? ⟨ga, 1, none⟩ = some (.int .i64 a.f1)) : StepOK Try.prog ops W B DS PS o 107 (fun _ v => v = .agg #[.int .i64 a.f0, .int .i64 a.f1]) := by
 intro Q base ac w hB hbel hsz hn hfar
 obtain ⟨dst, op, ty, pos, after, guard⟩ := o
 simp only at hop hd hg
 subst hop hd hg
 refine ⟨rfl, ?_⟩
 have e12 := (hfar 12 f12).trans (b12 base hB)
 obtain ⟨v22, e22, rfl⟩ := hn 22 n22 _ _ d22 p22
 have cka0 := pw_cell_below hbel ka0
 have cka1 := pw_cell_below hbel ka1
 clear hn hfar b12
 obtain ⟨og, hog, hod⟩ := hw
 rw [if_pos (want_on rfl hog hod e22)]
 go_simp
 exact ⟨_, rfl, (by first | with_reducible rfl | (rw [i64_w]) | (rw [Go.IntKind.wrap_i64]; rfl) | rfl), Below.refl _ _⟩
theorem ps15_s29 (hop : o.op = .load 26 (.tmp 14)) (hd : o.dst = some 108) (hg : o.guard = some (22, false)) (hw : ∃ og, ops[22]? = some og ∧ og.dst = some 101) (n22 : 22 ∈ needsOf .any o) (d22 : DS[22]? = some 101) (p22 : PS[22]? = some (fun _ v => v = .bool false)) (f14 : 14 ∉ DS) (b14 : ∀ base, B base → base[14]? = some (.pointer (some ⟨gc, 0, none⟩))) (kc0 : W.cell? ⟨gc, 0, none⟩ = some (.int .i64 c.f0)) (kc1 : W.cell? ⟨gc, 1, none⟩ = some (.int .i64 c.f1)) : StepOK Try.prog ops W B DS PS o 108 (fun _ v => v = .agg #[.int .i64 c.f0, .int .i64 c.f1]) := by
 intro Q base ac w hB hbel hsz hn hfar
 obtain ⟨dst, op, ty, pos, after, guard⟩ := o
 simp only at hop hd hg
 subst hop hd hg
 refine ⟨rfl, ?_⟩
 have e14 := (hfar 14 f14).trans (b14 base hB)
 obtain ⟨v22, e22, rfl⟩ := hn 22 n22 _ _ d22 p22
 have ckc0 := pw_cell_below hbel kc0
 have ckc1 := pw_cell_below hbel kc1
 clear hn hfar b14
 obtain ⟨og, hog, hod⟩ := hw
 rw [if_pos (want_on rfl hog hod e22)]
 go_simp
 exact ⟨_, rfl, (by first | with_reducible rfl | (rw [i64_w]) | (rw [Go.IntKind.wrap_i64]; rfl) | rfl), Below.refl _ _⟩
theorem ps15_s30 (hop : o.op = .load 26 (.tmp 15)) (hd : o.dst = some 109) (hg : o.guard = some (22, false)) (hw : ∃ og, ops[22]? = some og ∧ og.dst = some 101) (n22 : 22 ∈ needsOf .any o) (d22 : DS[22]? = some 101) (p22 : PS[22]? = some (fun _ v => v = .bool false)) (f15 : 15 ∉ DS) (b15 : ∀ base, B base → base[15]? = some (.pointer (some ⟨gd, 0, none⟩))) (kd0 : W.cell? ⟨gd, 0, none⟩ = some (.int .i64 d.f0)) (kd1 : W.cell? ⟨gd, 1, none⟩ = some (.int .i64 d.f1)) : StepOK Try.prog ops W B DS PS o 109 (fun _ v => v = .agg #[.int .i64 d.f0, .int .i64 d.f1]) := by
 intro Q base ac w hB hbel hsz hn hfar
 obtain ⟨dst, op, ty, pos, after, guard⟩ := o
 simp only at hop hd hg
 subst hop hd hg
 refine ⟨rfl, ?_⟩
 have e15 := (hfar 15 f15).trans (b15 base hB)
 obtain ⟨v22, e22, rfl⟩ := hn 22 n22 _ _ d22 p22
 have ckd0 := pw_cell_below hbel kd0
 have ckd1 := pw_cell_below hbel kd1
 clear hn hfar b15
 obtain ⟨og, hog, hod⟩ := hw
 rw [if_pos (want_on rfl hog hod e22)]
 go_simp
 exact ⟨_, rfl, (by first | with_reducible rfl | (rw [i64_w]) | (rw [Go.IntKind.wrap_i64]; rfl) | rfl), Below.refl _ _⟩
theorem ps15_s31 (hop : o.op = .load 26 (.tmp 15)) (hd : o.dst = some 110) (hg : o.guard = some (22, false)) (hw : ∃ og, ops[22]? = some og ∧ og.dst = some 101) (n22 : 22 ∈ needsOf .any o) (d22 : DS[22]? = some 101) (p22 : PS[22]? = some (fun _ v => v = .bool false)) (f15 : 15 ∉ DS) (b15 : ∀ base, B base → base[15]? = some (.pointer (some ⟨gd, 0, none⟩))) (kd0 : W.cell? ⟨gd, 0, none⟩ = some (.int .i64 d.f0)) (kd1 : W.cell? ⟨gd, 1, none⟩ = some (.int .i64 d.f1)) : StepOK Try.prog ops W B DS PS o 110 (fun _ v => v = .agg #[.int .i64 d.f0, .int .i64 d.f1]) := by
 intro Q base ac w hB hbel hsz hn hfar
 obtain ⟨dst, op, ty, pos, after, guard⟩ := o
 simp only at hop hd hg
 subst hop hd hg
 refine ⟨rfl, ?_⟩
 have e15 := (hfar 15 f15).trans (b15 base hB)
 obtain ⟨v22, e22, rfl⟩ := hn 22 n22 _ _ d22 p22
 have ckd0 := pw_cell_below hbel kd0
 have ckd1 := pw_cell_below hbel kd1
 clear hn hfar b15
 obtain ⟨og, hog, hod⟩ := hw
 rw [if_pos (want_on rfl hog hod e22)]
 go_simp
 exact ⟨_, rfl, (by first | with_reducible rfl | (rw [i64_w]) | (rw [Go.IntKind.wrap_i64]; rfl) | rfl), Below.refl _ _⟩
theorem ps15_s32 (hop : o.op = .call { callee := Go.Callee.value (.func 9), args := #[.tmp 107, .tmp 108, .tmp 109, .tmp 110], argTypes := #[26, 26, 26, 26] }) (hd : o.dst = some 111) (hg : o.guard = some (22, false)) (hw : ∃ og, ops[22]? = some og ∧ og.dst = some 101) (n28 : 28 ∈ needsOf .any o) (d28 : DS[28]? = some 107) (p28 : PS[28]? = some (fun _ v => v = .agg #[.int .i64 a.f0, .int .i64 a.f1])) (n29 : 29 ∈ needsOf .any o) (d29 : DS[29]? = some 108) (p29 : PS[29]? = some (fun _ v => v = .agg #[.int .i64 c.f0, .int .i64 c.f1])) (n30 : 30 ∈ needsOf .any o) (d30 : DS[30]? = some 109) (p30 : PS[30]? = some (fun _ v => v = .agg #[.int .i64 d.f0, .int .i64 d.f1])) (n31 : 31 ∈ needsOf .any o) (d31 : DS[31]? = some 110) (p31 : PS[31]? = some (fun _ v => v = .agg #[.int .i64 d.f0, .int .i64 d.f1])) (n22 : 22 ∈ needsOf .any o) (d22 : DS[22]? = some 101) (p22 : PS[22]? = some (fun _ v => v = .bool false)) : StepOK Try.prog ops W B DS PS o 111 (fun _ v => v = .bool (crossP a c d d)) := by
 intro Q base ac w hB hbel hsz hn hfar
 obtain ⟨dst, op, ty, pos, after, guard⟩ := o
 simp only at hop hd hg
 subst hop hd hg
 refine ⟨rfl, ?_⟩
 obtain ⟨v28, e28, rfl⟩ := hn 28 n28 _ _ d28 p28
 obtain ⟨v29, e29, rfl⟩ := hn 29 n29 _ _ d29 p29
 obtain ⟨v30, e30, rfl⟩ := hn 30 n30 _ _ d30 p30
 obtain ⟨v31, e31, rfl⟩ := hn 31 n31 _ _ d31 p31
 obtain ⟨v22, e22, rfl⟩ := hn 22 n22 _ _ d22 p22
 clear hn hfar
 obtain ⟨og, hog, hod⟩ := hw
 rw [if_pos (want_on rfl hog hod e22)]
 go_simp
 go_at_call 9
 refine (rcross_calls a c d d _).mono ?_
 rintro e w2 ⟨rfl, hb2⟩
 exact ⟨_, rfl, rfl, hb2⟩
theorem ps15_s33 (hop : o.op = .binOp Go.BinOp.neq 4 (.tmp 106) (.tmp 111) 4) (hd : o.dst = some 112) (hg : o.guard = some (22, false)) (hw : ∃ og, ops[22]? = some og ∧ og.dst = some 101) (n27 : 27 ∈ needsOf .any o) (d27 : DS[27]? = some 106) (p27 : PS[27]? = some (fun _ v => v = .bool (crossP a c d d))) (n32 : 32 ∈ needsOf .any o) (d32 : DS[32]? = some 111) (p32 : PS[32]? = some (fun _ v => v = .bool (crossP a c d d))) (n22 : 22 ∈ needsOf .any o) (d22 : DS[22]? = some 101) (p22 : PS[22]? = some (fun _ v => v = .bool false)) : StepOK Try.prog ops W B DS PS o 112 (fun _ v => v = .bool false) := by
 intro Q base ac w hB hbel hsz hn hfar
 obtain ⟨dst, op, ty, pos, after, guard⟩ := o
 simp only at hop hd hg
 subst hop hd hg
 refine ⟨rfl, ?_⟩
 obtain ⟨v27, e27, rfl⟩ := hn 27 n27 _ _ d27 p27
 obtain ⟨v32, e32, rfl⟩ := hn 32 n32 _ _ d32 p32
 obtain ⟨v22, e22, rfl⟩ := hn 22 n22 _ _ d22 p22
 clear hn hfar
 obtain ⟨og, hog, hod⟩ := hw
 rw [if_pos (want_on rfl hog hod e22)]
 go_simp
 exact ⟨_, rfl, (by first | with_reducible rfl | (rw [i64_w]) | (rw [Go.IntKind.wrap_i64]; rfl) | rfl), Below.refl _ _⟩
theorem ps15_s34 (hop : o.op = .pick (.tmp 101) (.const (.bool true)) (.tmp 112)) (hd : o.dst = some 113) (hg : o.guard = none) (n22 : 22 ∈ needsOf .any o) (d22 : DS[22]? = some 101) (p22 : PS[22]? = some (fun _ v => v = .bool false)) (n33 : 33 ∈ needsOf .any o) (d33 : DS[33]? = some 112) (p33 : PS[33]? = some (fun _ v => v = .bool false)) : StepOK Try.prog ops W B DS PS o 113 (fun _ v => v = .bool false) := by
 intro Q base ac w hB hbel hsz hn hfar
 obtain ⟨dst, op, ty, pos, after, guard⟩ := o
 simp only at hop hd hg
 subst hop hd hg
 refine ⟨rfl, ?_⟩
 obtain ⟨v22, e22, rfl⟩ := hn 22 n22 _ _ d22 p22
 obtain ⟨v33, e33, rfl⟩ := hn 33 n33 _ _ d33 p33
 clear hn hfar
 go_simp
 exact ⟨_, rfl, (by first | with_reducible rfl | (rw [i64_w]) | (rw [Go.IntKind.wrap_i64]; rfl) | rfl), Below.refl _ _⟩
end
end Go.Proofs.Ytjmkccabpnigiaa.P
