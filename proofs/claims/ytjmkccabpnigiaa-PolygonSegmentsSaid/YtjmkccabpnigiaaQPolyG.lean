import Derived.Test.YtjmkccabpnigiaaQPolyT
import Derived.Test.YtjmkccabpnigiaaQPolyD
import Derived.RangeFuncNested
import Derived.RangeFuncLeaves
import Derived.WalkKit
import Derived.OwnWalkIn
import Derived.TacticsInMore
import Derived.LoopNIn
import Derived.LoopIn
namespace Go.Proofs.Ytjmkccabpnigiaa.P
open Go.RowKit Go.Proofs.YtjmkccabpnigiaaW.PrintWords Go.Proofs.YtjmkccabpnigiaaW.PrintLast Go.Proofs.YtjmkccabpnigiaaW.PrintMore
attribute [local go_sem] max2_int min2_int max_two min_two max_three min_three max_four min_four
set_option linter.unusedVariables false
set_option linter.unusedSimpArgs false
set_option maxHeartbeats 4000000
set_option maxRecDepth 100000
section
variable {a b : S26} {i j : Int} {l n c ga gs : Nat} {ad : Addr} {W : World} {B : Array Value → Prop} {DS : List Nat} {PS : List (World → Value → Prop)} {ops : Array Oper} {o : Oper}
theorem ed3_s0 (hop : o.op = .move (.tmp 0)) (hd : o.dst = some 12) (hg : o.guard = none) (f0 : 0 ∉ DS) (b0 : ∀ base, B base → base[0]? = some (.func (.yield l) #[] #[])) : StepOK Try.prog ops W B DS PS o 12 (fun _ v => v = .func (.yield l) #[] #[]) := by
 intro Q base ac w hB hbel hsz hn hfar
 obtain ⟨dst, op, ty, pos, after, guard⟩ := o
 simp only at hop hd hg
 subst hop hd hg
 refine ⟨rfl, ?_⟩
 have e0 := (hfar 0 f0).trans (b0 base hB)
 clear hn hfar b0
 go_simp
 exact ⟨_, rfl, (by first | with_reducible rfl | (rw [i64_w]) | (rw [Go.IntKind.wrap_i64]; rfl) | rfl), Below.refl _ _⟩
theorem ed3_s1 (hop : o.op = .move (.tmp 3)) (hd : o.dst = some 13) (hg : o.guard = none) (f3 : 3 ∉ DS) (b3 : ∀ base, B base → base[3]? = some (.int .i64 i)) : StepOK Try.prog ops W B DS PS o 13 (fun _ v => v = .int .i64 i) := by
 intro Q base ac w hB hbel hsz hn hfar
 obtain ⟨dst, op, ty, pos, after, guard⟩ := o
 simp only at hop hd hg
 subst hop hd hg
 refine ⟨rfl, ?_⟩
 have e3 := (hfar 3 f3).trans (b3 base hB)
 clear hn hfar b3
 go_simp
 exact ⟨_, rfl, (by first | with_reducible rfl | (rw [i64_w]) | (rw [Go.IntKind.wrap_i64]; rfl) | rfl), Below.refl _ _⟩
theorem ed3_s2 (hop : o.op = .load 26 (.tmp 4)) (hd : o.dst = some 14) (hg : o.guard = none) (f4 : 4 ∉ DS) (b4 : ∀ base, B base → base[4]? = some (.pointer (some ⟨ga, 0, none⟩))) (ka0 : W.cell? ⟨ga, 0, none⟩ = some (.int .i64 a.f0)) (ka1 : W.cell? ⟨ga, 1, none⟩ = some (.int .i64 a.f1)) : StepOK Try.prog ops W B DS PS o 14 (fun _ v => v = .agg #[.int .i64 a.f0, .int .i64 a.f1]) := by
 intro Q base ac w hB hbel hsz hn hfar
 obtain ⟨dst, op, ty, pos, after, guard⟩ := o
 simp only at hop hd hg
 subst hop hd hg
 refine ⟨rfl, ?_⟩
 have e4 := (hfar 4 f4).trans (b4 base hB)
 have cka0 := pw_cell_below hbel ka0
 have cka1 := pw_cell_below hbel ka1
 clear hn hfar b4
 go_simp
 exact ⟨_, rfl, (by first | with_reducible rfl | (rw [i64_w]) | (rw [Go.IntKind.wrap_i64]; rfl) | rfl), Below.refl _ _⟩
theorem ed3_s3 (hop : o.op = .load 23 (.tmp 1)) (hd : o.dst = some 15) (hg : o.guard = none) (f1 : 1 ∉ DS) (b1 : ∀ base, B base → base[1]? = some (.pointer (some ⟨gs, 0, none⟩))) (ks : W.cell? ⟨gs, 0, none⟩ = some (.slice (some ad) n c)) : StepOK Try.prog ops W B DS PS o 15 (fun _ v => v = .slice (some ad) n c) := by
 intro Q base ac w hB hbel hsz hn hfar
 obtain ⟨dst, op, ty, pos, after, guard⟩ := o
 simp only at hop hd hg
 subst hop hd hg
 refine ⟨rfl, ?_⟩
 have e1 := (hfar 1 f1).trans (b1 base hB)
 have cks := pw_cell_below hbel ks
 clear hn hfar b1
 go_simp
 exact ⟨_, rfl, (by first | with_reducible rfl | (rw [i64_w]) | (rw [Go.IntKind.wrap_i64]; rfl) | rfl), Below.refl _ _⟩
theorem ed3_s4 (hop : o.op = .move (.tmp 3)) (hd : o.dst = some 16) (hg : o.guard = none) (f3 : 3 ∉ DS) (b3 : ∀ base, B base → base[3]? = some (.int .i64 i)) : StepOK Try.prog ops W B DS PS o 16 (fun _ v => v = .int .i64 i) := by
 intro Q base ac w hB hbel hsz hn hfar
 obtain ⟨dst, op, ty, pos, after, guard⟩ := o
 simp only at hop hd hg
 subst hop hd hg
 refine ⟨rfl, ?_⟩
 have e3 := (hfar 3 f3).trans (b3 base hB)
 clear hn hfar b3
 go_simp
 exact ⟨_, rfl, (by first | with_reducible rfl | (rw [i64_w]) | (rw [Go.IntKind.wrap_i64]; rfl) | rfl), Below.refl _ _⟩
theorem ed3_s5 (hop : o.op = .binOp Go.BinOp.add 3 (.tmp 16) (.const (.int .i64 1)) 3) (hd : o.dst = some 17) (hg : o.guard = none) (n4 : 4 ∈ needsOf .any o) (d4 : DS[4]? = some 16) (p4 : PS[4]? = some (fun _ v => v = .int .i64 i)) : StepOK Try.prog ops W B DS PS o 17 (fun _ v => v = .int .i64 (wrap64 (i + 1))) := by
 intro Q base ac w hB hbel hsz hn hfar
 obtain ⟨dst, op, ty, pos, after, guard⟩ := o
 simp only at hop hd hg
 subst hop hd hg
 refine ⟨rfl, ?_⟩
 obtain ⟨v4, e4, rfl⟩ := hn 4 n4 _ _ d4 p4
 clear hn hfar
 go_simp
 exact ⟨_, rfl, (by first | with_reducible rfl | (rw [i64_w]) | (rw [Go.IntKind.wrap_i64]; rfl) | rfl), Below.refl _ _⟩
theorem ed3_s6 (hop : o.op = .load 23 (.tmp 1)) (hd : o.dst = some 18) (hg : o.guard = none) (f1 : 1 ∉ DS) (b1 : ∀ base, B base → base[1]? = some (.pointer (some ⟨gs, 0, none⟩))) (ks : W.cell? ⟨gs, 0, none⟩ = some (.slice (some ad) n c)) : StepOK Try.prog ops W B DS PS o 18 (fun _ v => v = .slice (some ad) n c) := by
 intro Q base ac w hB hbel hsz hn hfar
 obtain ⟨dst, op, ty, pos, after, guard⟩ := o
 simp only at hop hd hg
 subst hop hd hg
 refine ⟨rfl, ?_⟩
 have e1 := (hfar 1 f1).trans (b1 base hB)
 have cks := pw_cell_below hbel ks
 clear hn hfar b1
 go_simp
 exact ⟨_, rfl, (by first | with_reducible rfl | (rw [i64_w]) | (rw [Go.IntKind.wrap_i64]; rfl) | rfl), Below.refl _ _⟩
theorem ed3_s7 (hop : o.op = .call { callee := Go.Callee.builtin Go.Builtin.len, args := #[.tmp 18], argTypes := #[23] }) (hd : o.dst = some 19) (hg : o.guard = none) (n6 : 6 ∈ needsOf .any o) (d6 : DS[6]? = some 18) (p6 : PS[6]? = some (fun _ v => v = .slice (some ad) n c)) : StepOK Try.prog ops W B DS PS o 19 (fun _ v => v = .int .i64 (n : Int)) := by
 intro Q base ac w hB hbel hsz hn hfar
 obtain ⟨dst, op, ty, pos, after, guard⟩ := o
 simp only at hop hd hg
 subst hop hd hg
 refine ⟨rfl, ?_⟩
 obtain ⟨v6, e6, rfl⟩ := hn 6 n6 _ _ d6 p6
 clear hn hfar
 go_simp
 exact ⟨_, rfl, (by first | with_reducible rfl | (rw [i64_w]) | (rw [Go.IntKind.wrap_i64]; rfl) | rfl), Below.refl _ _⟩
theorem ed3_s8 (hop : o.op = .binOp Go.BinOp.rem 3 (.tmp 17) (.tmp 19) 3) (hd : o.dst = some 20) (hg : o.guard = none) (n5 : 5 ∈ needsOf .any o) (d5 : DS[5]? = some 17) (p5 : PS[5]? = some (fun _ v => v = .int .i64 (wrap64 (i + 1)))) (n7 : 7 ∈ needsOf .any o) (d7 : DS[7]? = some 19) (p7 : PS[7]? = some (fun _ v => v = .int .i64 (n : Int))) (hj : j = Int.tmod (wrap64 (i + 1)) (n : Int)) (hn0 : ¬(n = 0)) : StepOK Try.prog ops W B DS PS o 20 (fun _ v => v = .int .i64 j) := by
 intro Q base ac w hB hbel hsz hn hfar
 obtain ⟨dst, op, ty, pos, after, guard⟩ := o
 simp only at hop hd hg
 subst hop hd hg
 refine ⟨rfl, ?_⟩
 obtain ⟨v5, e5, rfl⟩ := hn 5 n5 _ _ d5 p5
 obtain ⟨v7, e7, rfl⟩ := hn 7 n7 _ _ d7 p7
 clear hn hfar
 subst hj
 go_simp
 exact ⟨_, rfl, (by first | with_reducible rfl | (rw [i64_w]) | (rw [Go.IntKind.wrap_i64]; rfl) | rfl), Below.refl _ _⟩
theorem ed3_s9 (hop : o.op = .indexAddr 23 (.tmp 15) (.tmp 20)) (hd : o.dst = some 21) (hg : o.guard = none) (n3 : 3 ∈ needsOf .any o) (d3 : DS[3]? = some 15) (p3 : PS[3]? = some (fun _ v => v = .slice (some ad) n c)) (n8 : 8 ∈ needsOf .any o) (d8 : DS[8]? = some 20) (p8 : PS[8]? = some (fun _ v => v = .int .i64 j)) (hj0 : 0 ≤ j) (hjn : j < (n : Int)) : StepOK Try.prog ops W B DS PS o 21 (fun _ v => v = .pointer (some (ad.add (j.toNat * 2)))) := by
 intro Q base ac w hB hbel hsz hn hfar
 obtain ⟨dst, op, ty, pos, after, guard⟩ := o
 simp only at hop hd hg
 subst hop hd hg
 refine ⟨rfl, ?_⟩
 obtain ⟨v3, e3, rfl⟩ := hn 3 n3 _ _ d3 p3
 obtain ⟨v8, e8, rfl⟩ := hn 8 n8 _ _ d8 p8
 clear hn hfar
 go_simp
 exact ⟨_, rfl, (by first | with_reducible rfl | (rw [i64_w]) | (rw [Go.IntKind.wrap_i64]; rfl) | rfl), Below.refl _ _⟩
theorem ed3_s10 (hop : o.op = .load 26 (.tmp 21)) (hd : o.dst = some 22) (hg : o.guard = none) (n9 : 9 ∈ needsOf .any o) (d9 : DS[9]? = some 21) (p9 : PS[9]? = some (fun _ v => v = .pointer (some (ad.add (j.toNat * 2))))) (kb0 : W.cell? (ad.add (j.toNat * 2)) = some (.int .i64 b.f0)) (kb1 : W.cell? ⟨(ad.add (j.toNat * 2)).block, (ad.add (j.toNat * 2)).off + 1, none⟩ = some (.int .i64 b.f1)) : StepOK Try.prog ops W B DS PS o 22 (fun _ v => v = .agg #[.int .i64 b.f0, .int .i64 b.f1]) := by
 intro Q base ac w hB hbel hsz hn hfar
 obtain ⟨dst, op, ty, pos, after, guard⟩ := o
 simp only at hop hd hg
 subst hop hd hg
 refine ⟨rfl, ?_⟩
 obtain ⟨v9, e9, rfl⟩ := hn 9 n9 _ _ d9 p9
 have ckb0 := pw_cell_below hbel kb0
 have ckb1 := pw_cell_below hbel kb1
 clear hn hfar
 go_simp
 exact ⟨_, rfl, (by first | with_reducible rfl | (rw [i64_w]) | (rw [Go.IntKind.wrap_i64]; rfl) | rfl), Below.refl _ _⟩
theorem ed3_s11 (hop : o.op = .build 53 #[(0, .tmp 14), (1, .tmp 22)]) (hd : o.dst = some 23) (hg : o.guard = none) (n2 : 2 ∈ needsOf .any o) (d2 : DS[2]? = some 14) (p2 : PS[2]? = some (fun _ v => v = .agg #[.int .i64 a.f0, .int .i64 a.f1])) (n10 : 10 ∈ needsOf .any o) (d10 : DS[10]? = some 22) (p10 : PS[10]? = some (fun _ v => v = .agg #[.int .i64 b.f0, .int .i64 b.f1])) : StepOK Try.prog ops W B DS PS o 23 (fun _ v => v = .agg #[.int .i64 a.f0, .int .i64 a.f1, .int .i64 b.f0, .int .i64 b.f1]) := by
 intro Q base ac w hB hbel hsz hn hfar
 obtain ⟨dst, op, ty, pos, after, guard⟩ := o
 simp only at hop hd hg
 subst hop hd hg
 refine ⟨rfl, ?_⟩
 obtain ⟨v2, e2, rfl⟩ := hn 2 n2 _ _ d2 p2
 obtain ⟨v10, e10, rfl⟩ := hn 10 n10 _ _ d10 p10
 clear hn hfar
 go_simp
 exact ⟨_, rfl, (by first | with_reducible rfl | (rw [i64_w]) | (rw [Go.IntKind.wrap_i64]; rfl) | rfl), Below.refl _ _⟩
end
/-- An edge of a ring, with its index. -/
def edgeAt (ps : List S26) (k : Nat) : Nat × S26 × S26 := (k, rd_T26 ps k, rd_T26 ps ((k + 1) % ps.length : Nat))
def edUpto (ps : List S26) (k : Nat) : List (Nat × S26 × S26) := (List.range k).map (edgeAt ps)
def edgesOf (ps : List S26) : List (Nat × S26 × S26) := edUpto ps ps.length
theorem edUpto_succ (ps : List S26) (k : Nat) : edUpto ps (k + 1) = edUpto ps k ++ [edgeAt ps k] := by simp [edUpto, List.range_succ]
theorem edUpto_length (ps : List S26) (k : Nat) : (edUpto ps k).length = k := by simp [edUpto]
theorem edUpto_pre (ps : List S26) {k : Nat} (h : k ≤ ps.length) : edUpto ps k <+: edgesOf ps := by
 unfold edgesOf edUpto
 refine List.IsPrefix.map _ ?_
 obtain ⟨d, hd⟩ : ∃ d, ps.length = k + d := ⟨ps.length - k, by omega⟩
 rw [hd, List.range_add]
 exact List.prefix_append _ _
def edEnc (x : Nat × S26 × S26) : Array Value := #[.int .i64 (x.1 : Int), .agg #[.int .i64 x.2.1.f0, .int .i64 x.2.1.f1, .int .i64 x.2.2.f0, .int .i64 x.2.2.f1]]
theorem next_idx {k n : Nat} (h : k < n) (hm : n ≤ 9223372036854775807) : ((((k + 1) % n : Nat) : Int) = Int.tmod (wrap64 ((k : Int) + 1)) (n : Int)) := by
 rw [Go.IntWalk.wrap64_in ((k : Int) + 1) (by omega)]
 exact Int.ofNat_tmod (k + 1) n
theorem abides_below {β : Type} {B : Nat} {J : β → World → Prop} (h : AbidesFrom B J) {s : β} {W W' : World} (hs : J s W) (hb : Below W.heap.size W W') : J s W' :=
 h s W W' none hs ⟨hb.os, hb.tape, hb.output, hb.size, fun k hk _ => hb.block k hk⟩ (fun r e => by cases e)
/-- What a body of a loop over a ring's edges keeps: what lay below n₀, and the ring's box. -/
def KpE (n₀ Bs : Nat) (W W' : World) : Prop := Below n₀ W W' ∧ W'.heap[Bs]? = W.heap[Bs]?
theorem KpE.trans {n₀ Bs : Nat} {A B C : World} (h : KpE n₀ Bs A B) (k : KpE n₀ Bs B C) : KpE n₀ Bs A C := ⟨h.1.trans k.1, k.2.trans h.2⟩
theorem KpE.refl (n₀ Bs : Nat) (W : World) : KpE n₀ Bs W W := ⟨Below.refl _ _, rfl⟩
theorem KpE.below {n₀ Bs : Nat} {W W' : World} (h0 : n₀ ≤ W.heap.size) (h1 : Bs < W.heap.size) (h : Below W.heap.size W W') : KpE n₀ Bs W W' := ⟨h.mono h0, h.block Bs h1⟩
theorem KpE.put {n₀ Bs : Nat} {w : World} (hn : n₀ ≤ w.heap.size) (hB : Bs < w.heap.size) (W : World) (l : Nat) (o o' : Obj) (hl : w.heap.size ≤ l) (h : W.heap[l]? = some o) (hc : o.isCells = false) (hw : o.isWalk = false) : KpE n₀ Bs W (W.putObj l o') :=
 ⟨belowK_b hn W l o o' hl h hc hw, World.putObj_heap_other (by omega)⟩
theorem edges1_in (n l Bs n₀ : Nat) (A : Option Addr) (c : Nat) (ps : List S26) (J Jx : List (Nat × S26 × S26) → World → Prop) (W : World) (hJ : AbidesFrom W.heap.size J)
    (hY : ∀ pre x W, x ∈ edgesOf ps → J pre W → pre.length < ps.length → YieldAt Fence.wide (n - 1) Try.prog l (edEnc x) W fun e W' =>
     (e = .returned (.bool true) ∧ J (pre ++ [x]) W' ∧ KpE n₀ Bs W W') ∨ (e = .returned (.bool false) ∧ Jx (pre ++ [x]) W'))
    (hBs : W.heap[Bs]? = some (.cells #[.slice A ps.length c] 23 (0, 0))) (hn0 : n₀ ≤ W.heap.size) (hC : ∀ W', Below n₀ W W' → Kd.C k26 W' A ps.length ps) (h0 : J [] W) :
    CallsIn Fence.wide n Try.prog 53 #[.func (.yield l) #[] #[], .pointer (some ⟨Bs, 0, none⟩)] W fun e W' => (∃ v, e = .returned v) ∧
     ((∃ ys, ys = edgesOf ps ∧ J ys W') ∨ (∃ pre, pre <+: edgesOf ps ∧ Jx pre W')) := by
 have hu26 := Try.underlying26
 have hmax := Kd.C_max (hC W (Below.refl _ _))
 refine callsIn_of_wp Try.func53 rfl trivial ?_ rfl
 simp only [Try.ntmps53, List.size_toArray, List.length_cons, List.length_nil, Nat.reduceAdd, Nat.reduceSub, Array.replicate_succ, Array.replicate_zero, List.push_toArray, List.append_toArray, List.nil_append, List.cons_append]
 have HC := Aside0.mk hC
 have HS := Aside0.mk hBs
 have hs0 : W.cell? ⟨Bs, 0, none⟩ = some (.slice A ps.length c) := blk_cell hBs 0
 have hBl : Bs < W.heap.size := (Array.getElem?_eq_some_iff.1 hBs).1
 clear hC hBs
 gi_wp2
 clear hs0
 gi_loopw [7] (fun v wr => ∃ k : Nat, k ≤ ps.length ∧ v = .int .i64 k ∧ Aside0 (J (edUpto ps k) wr) ∧ Aside0 (KpE n₀ Bs W wr)) (fun v _ => ps.length - (intOf v).toNat)
 case atStart => exact ⟨0, Nat.zero_le _, rfl, ⟨h0⟩, ⟨KpE.refl _ _ _⟩⟩
 case round =>
  obtain ⟨k, hk, rfl, HJ, HB⟩ := hrel
  obtain ⟨w0, rfl⟩ : ∃ w0 : World, w0 = wr := ⟨_, rfl⟩
  by_cases hlt : k < ps.length
  ·obtain ⟨ad, rfl, h0, h1⟩ := at_T26 (HC.out _ HB.out.1) (k : Int) (by omega) (by omega)
   obtain ⟨j, hj⟩ : ∃ j : Nat, (k + 1) % ps.length = j := ⟨_, rfl⟩
   have hjn : j < ps.length := by rw [← hj]; exact Nat.mod_lt _ (by omega)
   have hjt := next_idx hlt hmax
   rw [hj] at hjt
   obtain ⟨ad2, e2, b0, b1⟩ := at_T26 (HC.out _ HB.out.1) (j : Int) (by omega) (by omega)
   obtain rfl := Option.some.inj e2
   have hx : edgeAt ps k = (k, rd_T26 ps k, rd_T26 ps j) := by unfold edgeAt; rw [hj]
   obtain ⟨a, ha⟩ : ∃ a, rd_T26 ps k = a := ⟨_, rfl⟩
   obtain ⟨b, hb⟩ : ∃ b, rd_T26 ps j = b := ⟨_, rfl⟩
   rw [ha] at h0 h1 hx
   rw [hb] at b0 b1 hx
   have hs0 : w0.cell? ⟨Bs, 0, none⟩ = some (.slice (some ad) ps.length c) := blk_cell (HB.out.2.trans HS.out) 0
   rw [Int.toNat_natCast] at h0 h1
   clear hj e2 ha hb
   gi_wp2
   have kab := blk_new w0 (.cells #[.int .i64 a.f0, .int .i64 a.f1] 26)
   have hbe := below_alloc (Below.refl w0.heap.size w0) (.cells #[.int .i64 a.f0, .int .i64 a.f1] 26)
   obtain ⟨W2, hW2⟩ : ∃ W2, w0.alloc (.cells #[.int .i64 a.f0, .int .i64 a.f1] 26) = W2 := ⟨_, rfl⟩
   obtain ⟨ga, hga⟩ : ∃ g, w0.heap.size = g := ⟨_, rfl⟩
   rw [hW2] at kab hbe ⊢
   rw [hga] at kab ⊢
   have ka0 : W2.cell? ⟨ga, 0, none⟩ = some (.int .i64 a.f0) := blk_cell kab 0
   have ka1 : W2.cell? ⟨ga, 1, none⟩ = some (.int .i64 a.f1) := blk_cell kab 1
   have ks := pw_cell_below hbe hs0
   have kb0 := pw_cell_below hbe b0
   have kb1 := pw_cell_below hbe b1
   have hne : ¬(ps.length = 0) := by omega
   have hj0 : (0 : Int) ≤ (j : Int) := by omega
   have hjn : (j : Int) < (ps.length : Int) := by omega
   have hj := hjt
   have HB2 := Aside0.mk (HB.out.trans (KpE.below (by have := HB.out.1.size; omega) (by have := HB.out.1.size; omega) hbe))
   have HJ2 := Aside0.mk (abides_below hJ HJ.out hbe)
   have HX := Aside0.mk hx
   clear hx kab hbe hga hW2 hjt h0 h1 b0 b1 hs0
   refine regionIn_tail (r := none) (n := n) 12 (by kernel_rfl) (by kernel_rfl) (by kernel_rfl) (by kernel_rfl) (by kernel_rfl) (by decide) (fun base => base[0]? = some (.func (.yield l) #[] #[]) ∧ base[1]? = some (.pointer (some ⟨Bs, 0, none⟩)) ∧ base[3]? = some (.int .i64 (k : Int)) ∧ base[4]? = some (.pointer (some ⟨ga, 0, none⟩))) [12, 13, 14, 15, 16, 17, 18, 19, 20, 21, 22, 23] [(fun _ v => v = .func (.yield l) #[] #[]), (fun _ v => v = .int .i64 (k : Int)), (fun _ v => v = .agg #[.int .i64 a.f0, .int .i64 a.f1]), (fun _ v => v = .slice (some ad) ps.length c), (fun _ v => v = .int .i64 (k : Int)), (fun _ v => v = .int .i64 (wrap64 ((k : Int) + 1))), (fun _ v => v = .slice (some ad) ps.length c), (fun _ v => v = .int .i64 (ps.length : Int)), (fun _ v => v = .int .i64 (j : Int)), (fun _ v => v = .pointer (some (ad.add ((j : Int).toNat * 2)))), (fun _ v => v = .agg #[.int .i64 b.f0, .int .i64 b.f1]), (fun _ v => v = .agg #[.int .i64 a.f0, .int .i64 a.f1, .int .i64 b.f0, .int .i64 b.f1])] ?hB rfl rfl (by decide) (by kernel_rfl) ?hstep ?hdone
   case hstep =>
    refine ⟨⟨mono_eq _, ed3_s0 rfl rfl rfl (by decide) (fun _ h => h.1)⟩, ?_⟩
    refine ⟨⟨mono_eq _, ed3_s1 rfl rfl rfl (by decide) (fun _ h => h.2.2.1)⟩, ?_⟩
    refine ⟨⟨mono_eq _, ed3_s2 rfl rfl rfl (by decide) (fun _ h => h.2.2.2) ka0 ka1⟩, ?_⟩
    refine ⟨⟨mono_eq _, ed3_s3 rfl rfl rfl (by decide) (fun _ h => h.2.1) ks⟩, ?_⟩
    refine ⟨⟨mono_eq _, ed3_s4 rfl rfl rfl (by decide) (fun _ h => h.2.2.1)⟩, ?_⟩
    refine ⟨⟨mono_eq _, ed3_s5 rfl rfl rfl (by decide) rfl rfl⟩, ?_⟩
    refine ⟨⟨mono_eq _, ed3_s6 rfl rfl rfl (by decide) (fun _ h => h.2.1) ks⟩, ?_⟩
    refine ⟨⟨mono_eq _, ed3_s7 rfl rfl rfl (by decide) rfl rfl⟩, ?_⟩
    refine ⟨⟨mono_eq _, ed3_s8 rfl rfl rfl (by decide) rfl rfl (by decide) rfl rfl hj hne⟩, ?_⟩
    refine ⟨⟨mono_eq _, ed3_s9 rfl rfl rfl (by decide) rfl rfl (by decide) rfl rfl hj0 hjn⟩, ?_⟩
    refine ⟨⟨mono_eq _, ed3_s10 rfl rfl rfl (by decide) rfl rfl kb0 kb1⟩, ?_⟩
    refine ⟨⟨mono_eq _, ed3_s11 rfl rfl rfl (by decide) rfl rfl (by decide) rfl rfl⟩, ?_⟩
    exact trivial
   case hB => exact ⟨rfl, rfl, rfl, rfl⟩
   case hdone =>
    intro vs w3 hv hb3
    obtain ⟨v0, vs1, rfl, rfl, hv1⟩ := hv.cons
    obtain ⟨v1, vs2, rfl, rfl, hv2⟩ := hv1.cons
    obtain ⟨v2, vs3, rfl, rfl, hv3⟩ := hv2.cons
    obtain ⟨v3, vs4, rfl, rfl, hv4⟩ := hv3.cons
    obtain ⟨v4, vs5, rfl, rfl, hv5⟩ := hv4.cons
    obtain ⟨v5, vs6, rfl, rfl, hv6⟩ := hv5.cons
    obtain ⟨v6, vs7, rfl, rfl, hv7⟩ := hv6.cons
    obtain ⟨v7, vs8, rfl, rfl, hv8⟩ := hv7.cons
    obtain ⟨v8, vs9, rfl, rfl, hv9⟩ := hv8.cons
    obtain ⟨v9, vs10, rfl, rfl, hv10⟩ := hv9.cons
    obtain ⟨v10, vs11, rfl, rfl, hv11⟩ := hv10.cons
    obtain ⟨v11, vs12, rfl, rfl, hv12⟩ := hv11.cons
    obtain rfl := hv12.nil
    simp only [laid, overlay, List.zipWith_cons_cons, List.zipWith_nil_left, List.zipWith_nil_right, List.foldl_cons, List.foldl_nil, List.setIfInBounds_toArray, List.set_cons_zero, List.set_cons_succ, List.drop_succ_cons, List.drop_zero]
    rw [fr_none]
    have HJ3 := abides_below hJ HJ2.out hb3
    have HB3 := Aside0.mk (HB2.out.trans (KpE.below (by have := HB2.out.1.size; omega) (by have := HB2.out.1.size; omega) hb3))
    obtain ⟨fn, tmps, assign, body, hy, hR⟩ := hY (edUpto ps k) (k, a, b) w3 (by rw [← HX.out]; exact List.mem_map.2 ⟨k, List.mem_range.2 hlt, rfl⟩) HJ3 (by rw [edUpto_length]; exact hlt)
    unfold edEnc at hy
    dsimp only at hy
    rw [← HX.out, ← edUpto_succ] at hR
    clear ka0 ka1 ks kb0 kb1 hb3 HJ3 HJ2 HJ HX hj hj0 hjn hne
    gi_wp2
    first
     | refine hR.mono ?_
     | refine ⟨(fun h => (by cases h)), hR.mono ?_⟩
    clear hR hy
    rintro e W3 (⟨rfl, hJ3, hk3⟩ | ⟨rfl, hJx3⟩)
    ·have HJ4 := Aside0.mk hJ3
     have HB4 := Aside0.mk (HB3.out.trans hk3)
     clear hJ3 hk3
     gi_wp2
     go_roundw
     case rel => exact ⟨k + 1, by omega, by first | rfl | (push_cast; rfl) | simp, HJ4, HB4⟩
     case measure => simp [intOf]; omega
    ·gi_wp2
     refine bodyPost_ret (results_none rfl _ _ _) rfl ?_
     exact ⟨⟨_, rfl⟩, .inr ⟨_, edUpto_pre ps (by omega), hJx3⟩⟩
  ·obtain rfl : k = ps.length := by omega
   gi_wp2
   go_end0
   exact ⟨⟨_, rfl⟩, .inl ⟨_, rfl, HJ.out⟩⟩
/-- The iterator of a ring's edges: all of them; or the first ones. -/
theorem edges_stops (n Bs : Nat) (A : Option Addr) (c : Nat) (ps : List S26) (w0 w : World) (hC : Kd.C k26 w0 A ps.length ps) (hw : Below w0.heap.size w0 w) (hBs : w.heap[Bs]? = some (.cells #[.slice A ps.length c] 23 (0, 0))) (n₀ : Nat) (h0 : w0.heap.size ≤ n₀) (h1 : n₀ ≤ w.heap.size) :
    SeqStopsK Fence.wide n Try.prog 53 #[.pointer (some ⟨Bs, 0, none⟩)] edEnc (KpE n₀ Bs) (fun ys => ys = edgesOf ps) (fun pre => pre <+: edgesOf ps) ps.length w := fun l J Jx W hW hJ _ hY hj =>
 edges1_in n l Bs n₀ A c ps J Jx W hJ (fun pre x W _ => hY pre x W) (blk_below hBs hW) (Nat.le_trans h1 hW.size)
  (fun W' hW' => Kd.C_below hC ((hw.trans (hW.mono (Nat.le_trans h0 h1))).trans (hW'.mono h0))) hj
/-- The same, the body being asked for the ring's edges alone. -/
theorem edges_stopsM (n Bs : Nat) (A : Option Addr) (c : Nat) (ps : List S26) (w0 w : World) (hC : Kd.C k26 w0 A ps.length ps) (hw : Below w0.heap.size w0 w) (hBs : w.heap[Bs]? = some (.cells #[.slice A ps.length c] 23 (0, 0))) (n₀ : Nat) (h0 : w0.heap.size ≤ n₀) (h1 : n₀ ≤ w.heap.size) :
    SeqStopsK Fence.wide n Try.prog 53 #[.pointer (some ⟨Bs, 0, none⟩)] (fun x : {x // x ∈ edgesOf ps} => edEnc x.1) (KpE n₀ Bs) (fun ys => ys.map (·.1) = edgesOf ps) (fun pre => pre.map (·.1) <+: edgesOf ps) ps.length w := fun l J Jx W hW hJ hJx hY hj => by
 refine (edges1_in n l Bs n₀ A c ps (fun l W => ∃ l' : List {x // x ∈ edgesOf ps}, l'.map (·.1) = l ∧ J l' W) (fun l W => ∃ l' : List {x // x ∈ edgesOf ps}, l'.map (·.1) = l ∧ Jx l' W) W (fun s A B row hs hg hr => ?_) (fun pre x W1 hx hs hl => ?_) (blk_below hBs hW) (Nat.le_trans h1 hW.size)
  (fun W' hW' => Kd.C_below hC ((hw.trans (hW.mono (Nat.le_trans h0 h1))).trans (hW'.mono h0))) ⟨[], rfl, hj⟩).mono ?_
 ·obtain ⟨l', e, h⟩ := hs
  exact ⟨l', e, hJ l' A B row h hg hr⟩
 ·obtain ⟨l', rfl, h⟩ := hs
  obtain ⟨fn, tm, asg, bo, hy, hR⟩ := hY l' ⟨x, hx⟩ W1 h (by simpa using hl)
  refine ⟨fn, tm, asg, bo, hy, hR.mono ?_⟩
  rintro e W' (⟨he, h1, h2⟩ | ⟨he, h1⟩)
  ·exact .inl ⟨he, ⟨l' ++ [⟨x, hx⟩], by simp, h1⟩, h2⟩
  ·exact .inr ⟨he, ⟨l' ++ [⟨x, hx⟩], by simp, h1⟩⟩
 ·rintro e W' ⟨hv, (⟨ys, rfl, l', e, h⟩ | ⟨pre, hp, l', e, h⟩)⟩
  ·exact ⟨hv, .inl ⟨l', e, h⟩⟩
  ·exact ⟨hv, .inr ⟨l', by show l'.map (·.1) <+: _; rw [e]; exact hp, h⟩⟩
theorem edges_calls (A : Option Addr) (n c : Nat) (w : World) : Calls Try.prog 43 #[.slice A n c] w fun e w' => e = .returned (.func (.func 53) #[] #[.pointer (some ⟨w.heap.size, 0, none⟩)]) ∧ w' = w.alloc (.cells #[.slice A n c] 23) := by
 go_enter Try.func43, Try.ntmps43
 go_wp2
 go_ret
 exact ⟨rfl, rfl⟩
end Go.Proofs.Ytjmkccabpnigiaa.P
