import Derived.Test.YtjmkccabpnigiaaQPolyL1
import Derived.Test.YtjmkccabpnigiaaQPolyK
import Derived.Test.YtjmkccabpnigiaaQPolyJ
namespace Go.Proofs.Ytjmkccabpnigiaa.P
open Go.RowKit Go.Proofs.YtjmkccabpnigiaaW.PrintWords Go.Proofs.YtjmkccabpnigiaaW.PrintLast Go.Proofs.YtjmkccabpnigiaaW.PrintMore
attribute [local go_sem] max2_int min2_int max_two min_two max_three min_three max_four min_four
set_option linter.unusedVariables false
set_option linter.unusedSimpArgs false
attribute [local go_sem] Oper.semAt_some
/-- One edge in the reckoning whether a point is inside of a ring, and on it. -/
def arStep (U V : Int) (st : Bool × Bool) (x : Nat × S26 × S26) : Bool × Bool :=
 if cmp3 x.2.1.f1 V * cmp3 x.2.2.f1 V > 0 then st
 else if x.2.1.f1 = x.2.2.f1 then (st.1, st.2 || (decide (cmp3 (mn x.2.1.f0 x.2.2.f0) U ≤ 0) && decide (cmp3 (mx x.2.1.f0 x.2.2.f0) U ≥ 0)))
 else (if ((decide (cmp3 x.2.1.f1 V ≤ 0) != decide (cmp3 x.2.2.f1 V ≤ 0)) && decide (sideP x.2.1 x.2.2 U V > 0)) = true then !st.1 else st.1, st.2 || decide (sideP x.2.1 x.2.2 U V = 0))
def aroundP (ps : List S26) (U V : Int) : Bool × Bool := (edgesOf ps).foldl (arStep U V) (false, false)
theorem cmp3_mul (x y z u : Int) : wrap64 (cmp3 x y * cmp3 z u) = cmp3 x y * cmp3 z u := by
 have h1 := cmp3_bound x y
 have h2 := cmp3_bound z u
 have p := prod_small (x := cmp3 x y) (y := cmp3 z u) (by omega) (by omega) (by omega) (by omega)
 exact Go.IntWalk.wrap64_in _ (by omega)
def EndA (g6 g7 : Nat) (W : World) (s : Bool × Bool) : Exit → Act → World → Prop
 | .normal, _, Wz => AR g6 g7 W Wz s
 | _, _, _ => False
theorem five_new' (w : World) (o1 o2 o3 o4 o5 : Obj) : (((((w.alloc o1).alloc o2).alloc o3).alloc o4).alloc o5).heap[w.heap.size]? = some o1 ∧ (((((w.alloc o1).alloc o2).alloc o3).alloc o4).alloc o5).heap[w.heap.size + 1]? = some o2 ∧ (((((w.alloc o1).alloc o2).alloc o3).alloc o4).alloc o5).heap[w.heap.size + 1 + 1]? = some o3 ∧ (((((w.alloc o1).alloc o2).alloc o3).alloc o4).alloc o5).heap[w.heap.size + 1 + 1 + 1]? = some o4 ∧ (((((w.alloc o1).alloc o2).alloc o3).alloc o4).alloc o5).heap[w.heap.size + 1 + 1 + 1 + 1]? = some o5 := by
 have h := four_boxes w o1 o2 o3 o4
 have k : ∀ (W : World) (o : Obj) (g : Nat) (x : Obj), W.heap[g]? = some x → (W.alloc o).heap[g]? = some x := fun W o g x hx => (Below.heap_alloc W o g (Array.getElem?_eq_some_iff.1 hx).1).trans hx
 exact ⟨k _ _ _ _ h.1, k _ _ _ _ h.2.1, k _ _ _ _ h.2.2.1, k _ _ _ _ h.2.2.2.1, five_new w o1 o2 o3 o4 o5⟩
theorem mem_near {ps : List S26} (h : ∀ p ∈ ps, farP p = false) {x : Nat × S26 × S26} (hx : x ∈ edgesOf ps) : farP x.2.1 = false ∧ farP x.2.2 = false := by
 obtain ⟨k, hk, rfl⟩ := List.mem_map.1 hx
 have hk := List.mem_range.1 hk
 have key : ∀ j, j < ps.length → farP (rd_T26 ps j) = false := fun j hj => h _ (by
  unfold rd_T26
  rw [Int.toNat_natCast, List.getD_eq_getElem?_getD, List.getElem?_eq_getElem hj]
  exact List.getElem_mem hj)
 exact ⟨key k hk, key _ (Nat.mod_lt _ (by omega))⟩
set_option maxRecDepth 100000 in
set_option maxHeartbeats 8000000 in
theorem around_calls (A : Option Addr) (c : Nat) (ps : List S26) (u v : Value) (U V : Int) (w : World) (hC : Kd.C k26 w A ps.length ps) (hu : FI w u U) (hv : FI w v V) (hnear : ∀ p ∈ ps, farP p = false) (hU : -4294967296 ≤ U ∧ U ≤ 4294967296) (hV : -4294967296 ≤ V ∧ V ≤ 4294967296) :
    Calls Try.prog 40 #[.slice A ps.length c, u, v] w fun e w' => e = .returned (.tuple #[.bool (aroundP ps U V).1, .bool (aroundP ps U V).2]) ∧ Below w.heap.size w w' := by
 have hu26 := Try.underlying26
 have hu45 := Try.underlying45
 have hu53 := Try.underlying53
 have HC := Aside0.mk hC
 have HFu := Aside0.mk hu
 have HFv := Aside0.mk hv
 obtain ⟨su, Au, nu, cu, tu, Bu, mu, du, rfl, _, _⟩ := hu
 obtain ⟨sv, Av, nv, cv, tv, Bv, mv, dv, rfl, _, _⟩ := hv
 have HN := Aside0.mk (And.intro hU hV)
 have HNE := Aside0.mk hnear
 clear hC hU hV hnear
 refine (callsIn_wide (n := 9)).1 ?_
 refine callsIn_of_wp_marks Try.func40 rfl trivial ?_ rfl
 simp only [Try.ntmps40, List.size_toArray, List.length_cons, List.length_nil, Nat.reduceAdd, Nat.reduceSub, Array.replicate_succ, Array.replicate_zero, List.push_toArray, List.append_toArray, List.nil_append, List.cons_append]
 refine wpIn_wide.2 ?_
 go_wp2_with (first
  | (go_at_call 43; (with_reducible refine (edges_calls _ _ _ _).mono ?_); rintro e w3 ⟨rfl, rfl⟩)
  | fail)
 refine (wpIn_wide (n := 9)).1 ?_
 have h5 := five_new' w (.cells #[.bool su, .slice Au nu cu, .bool tu, .slice Bu mu du] 45) (.cells #[.bool sv, .slice Av nv cv, .bool tv, .slice Bv mv dv] 45) (.cells #[.bool false] 4) (.cells #[.bool false] 4) (.cells #[.slice A ps.length c] 23)
 have hB0 := below_alloc (below_alloc (below_alloc (below_alloc (below_alloc (Below.refl w.heap.size w) (.cells #[.bool su, .slice Au nu cu, .bool tu, .slice Bu mu du] 45)) (.cells #[.bool sv, .slice Av nv cv, .bool tv, .slice Bv mv dv] 45)) (.cells #[.bool false] 4)) (.cells #[.bool false] 4)) (.cells #[.slice A ps.length c] 23)
 have hsz : (((((w.alloc (.cells #[.bool su, .slice Au nu cu, .bool tu, .slice Bu mu du] 45)).alloc (.cells #[.bool sv, .slice Av nv cv, .bool tv, .slice Bv mv dv] 45)).alloc (.cells #[.bool false] 4)).alloc (.cells #[.bool false] 4)).alloc (.cells #[.slice A ps.length c] 23)).heap.size = w.heap.size + 5 := by simp
 obtain ⟨W0, hW0⟩ : ∃ W0, ((((w.alloc (.cells #[.bool su, .slice Au nu cu, .bool tu, .slice Bu mu du] 45)).alloc (.cells #[.bool sv, .slice Av nv cv, .bool tv, .slice Bv mv dv] 45)).alloc (.cells #[.bool false] 4)).alloc (.cells #[.bool false] 4)).alloc (.cells #[.slice A ps.length c] 23) = W0 := ⟨_, rfl⟩
 rw [hW0] at h5 hB0 hsz ⊢
 clear hW0
 obtain ⟨gs, hgs⟩ : ∃ g, w.heap.size + 1 + 1 + 1 + 1 = g := ⟨_, rfl⟩
 obtain ⟨g7, hg7⟩ : ∃ g, w.heap.size + 1 + 1 + 1 = g := ⟨_, rfl⟩
 obtain ⟨g6, hg6⟩ : ∃ g, w.heap.size + 1 + 1 = g := ⟨_, rfl⟩
 obtain ⟨g5, hg5⟩ : ∃ g, w.heap.size + 1 = g := ⟨_, rfl⟩
 rw [hgs, hg7, hg6, hg5] at h5 ⊢
 obtain ⟨bU, bV, b6, b7, bS⟩ := h5
 have HGs := Aside0.mk (And.intro hsz (And.intro hg5 (And.intro hg6 (And.intro hg7 hgs))))
 obtain ⟨st, hst⟩ : ∃ st : List {x // x ∈ edgesOf ps} → Bool × Bool, st = fun pre => (pre.map (·.1)).foldl (arStep U V) (false, false) := ⟨_, rfl⟩
 refine wpIn_rangeFunc_ownH (n := 9) rfl (by omega) (gf := 53) (lb := #[.pointer (some ⟨gs, 0, none⟩)]) rfl trivial (enters_of Try.func53 (by kernel_rfl) rfl)
  (edges_stopsM 8 gs A c ps w W0 HC.out hB0 bS w.heap.size (Nat.le_refl _) (by omega)) KpE.trans (KpE.put (by omega) (by omega)) (Below.refl _ _) (fun _ => rfl)
  (fun pre W => (((((Boxed W g6 4 (.bool (st pre).1)) ∧ Boxed W g7 4 (.bool (st pre).2)) ∧ W.heap[w.heap.size]? = some (.cells #[.bool su, .slice Au nu cu, .bool tu, .slice Bu mu du] 45 (0, 0))) ∧ W.heap[g5]? = some (.cells #[.bool sv, .slice Av nv cv, .bool tv, .slice Bv mv dv] 45 (0, 0))) ∧ Boxed W gs 23 (.slice A ps.length c)) ∧ Below w.heap.size W0 W)
  (fun _ _ _ => False)
  (OwnFrom.and (OwnFrom.and (OwnFrom.and (OwnFrom.and (OwnFrom.and (Own.from (boxed_own g6 4 (fun pre => Value.bool (st pre).1)) _) (Own.from (boxed_own g7 4 (fun pre => Value.bool (st pre).2)) _)) (Own.from (cells_own w.heap.size 45 (fun _ => #[.bool su, .slice Au nu cu, .bool tu, .slice Bu mu du])) _)) (Own.from (cells_own g5 45 (fun _ => #[.bool sv, .slice Av nv cv, .bool tv, .slice Bv mv dv])) _)) (Own.from (boxed_own _ _ _) _)) (ownFrom_below (by omega) (by omega)))
  (fun _ _ _ _ _ hs _ _ => hs)
  ⟨⟨⟨⟨⟨by rw [hst]; exact b6, by rw [hst]; exact b7⟩, bU⟩, bV⟩, bS⟩, Below.refl _ _⟩
  (fun x a' W => ∃ gx, W0.heap.size ≤ gx ∧ W.heap[gx]? = some (.cells (edCells x.1) 53 (0, 0)) ∧ a' = { tmps := #[.slice A ps.length c, .agg #[.bool su, .slice Au nu cu, .bool tu, .slice Bu mu du], .agg #[.bool sv, .slice Av nv cv, .bool tv, .slice Bv mv dv], undef, .pointer (some ⟨w.heap.size, 0, none⟩), .pointer (some ⟨g5, 0, none⟩), .pointer (some ⟨g6, 0, none⟩), .pointer (some ⟨g7, 0, none⟩), undef, .pointer (some ⟨gx, 0, none⟩), undef, undef, undef, .slice A ps.length c, .func (.func 53) #[] #[.pointer (some ⟨gs, 0, none⟩)], .int .i64 (x.1.1 : Int), .agg (edCells x.1), undef, undef, undef, undef, undef, undef, undef, undef, undef, undef, undef, undef, undef, undef, undef, undef, undef, undef, undef, undef, undef, undef, undef, undef, undef, undef, undef, undef, undef, undef, undef, undef, undef, undef, undef, undef, undef, undef, undef, undef, undef, undef, undef, undef, undef, undef, undef, undef, undef, undef, undef, undef, undef, undef, undef, undef, undef, undef, undef, undef, undef, undef, undef, undef, undef, undef, undef, undef, undef, undef, undef, undef, undef, undef], defers := [] })
  (fun x a' _ X Y row hs hg hr => by obtain ⟨Bx, e1, e2, e3⟩ := hs; exact ⟨Bx, e1, cells_own Bx 53 (fun (_ : Unit) => edCells x.1) () X Y row e2 hg (fun r e => (hr r e).2), e3⟩)
  ?assign ?body ?done ?stop
 case assign =>
  rintro l pre ⟨⟨k, a, b⟩, hx⟩ W K ⟨⟨⟨⟨⟨p6, p7⟩, pU⟩, pV⟩, pS⟩, hB⟩ hK
  unfold edEnc
  clear hsz hg5 hg6 hg7 hgs
  gi_wp2
  obtain ⟨hsz, hg5, hg6, hg7, hgs⟩ := HGs.out
  exact hK _ _ ((KeepsOthers.alloc _ _).from _) (KpE.below (by have := hB.size; omega) (by have := hB.size; omega) (below_alloc (Below.refl _ _) _)) ⟨⟨⟨⟨⟨p6.alloc _, p7.alloc _⟩, blk_alloc pU _⟩, blk_alloc pV _⟩, pS.alloc _⟩, hB.alloc (by have := hB.size; omega) _⟩ ⟨W.heap.size, by have := hB.size; omega, blk_new W _, rfl⟩
 case body =>
  rintro l pre ⟨⟨k, a, b⟩, hx⟩ a' W hl hr ⟨⟨⟨⟨⟨p6, p7⟩, pU⟩, pV⟩, pS⟩, hB⟩ ⟨gx, hgx, bX, rfl⟩ hlt
  obtain ⟨i0, hi0⟩ : ∃ i, (st pre).1 = i := ⟨_, rfl⟩
  obtain ⟨o0, ho0⟩ : ∃ o, (st pre).2 = o := ⟨_, rfl⟩
  rw [hi0] at p6
  rw [ho0] at p7
  have hstep : st (pre ++ [⟨(k, a, b), hx⟩]) = arStep U V (i0, o0) (k, a, b) := by
   rw [← hi0, ← ho0, hst]
   simp
  obtain ⟨z, hz⟩ : ∃ z, arStep U V (i0, o0) (k, a, b) = z := ⟨_, rfl⟩
  have hWs := hB.size
  have hU' : gx ≠ g6 ∧ gx ≠ g7 := ⟨by omega, by omega⟩
  refine wpIn_mono (Q := EndA g6 g7 W z) ?walk ?conv
  case conv =>
   intro e a3 Wz hE
   cases e with
   | normal =>
    have hE : AR g6 g7 W Wz z := hE
    have key : ∀ (g : Nat) (o : Obj), W.heap[g]? = some o → g ≠ g6 → g ≠ g7 → Wz.heap[g]? = some o := fun g o hg h6 h7 => (hE.blk g (Array.getElem?_eq_some_iff.1 hg).1 h6 h7).trans hg
    have hbw : Below w.heap.size W Wz := ⟨hE.os, hE.tape, hE.output, hE.size, fun k hk => hE.blk k (by omega) (by omega) (by omega)⟩
    refine ⟨⟨hE.size, fun y o hy hk hc => key y o hk (by omega) (by omega)⟩, ⟨hbw, hE.blk gs (by omega) (by omega) (by omega)⟩, ⟨⟨⟨⟨?_, ?_⟩, key _ _ pU (by omega) (by omega)⟩, key _ _ pV (by omega) (by omega)⟩, key _ _ pS (by omega) (by omega)⟩, hB.trans hbw⟩
    ·rw [hstep, hz]; exact hE.b6
    ·rw [hstep, hz]; exact hE.b7
   | ret => exact hE.elim
   | exit => exact hE.elim
   | goto => exact hE.elim
   | panic => exact hE.elim
   | outgrown => exact hE.elim
  obtain ⟨ha, hb⟩ := mem_near HNE.out hx
  dsimp only at ha hb
  have HNP := Aside0.mk (And.intro (near_pt ha) (And.intro (near_pt hb) HN.out))
  have HFAR := Aside0.mk (And.intro ha hb)
  have HZ := Aside0.mk hz.symm
  have HAR := Aside0.mk (AR.mk (g6 := g6) (g7 := g7) (W := W) (Wz := W) (s := (i0, o0)) rfl rfl rfl (Nat.le_refl _) (fun _ _ _ _ => rfl) p6 p7)
  have HFI := Aside0.mk (And.intro (HFu.out.below (hB0.trans hB)) (HFv.out.below (hB0.trans hB)))
  unfold edCells at bX ⊢
  dsimp only at bX ⊢
  have HW := Aside0.mk (And.intro pU (And.intro pV bX))
  have HNE67 := Aside0.mk (And.intro (show g6 ≠ g7 by omega) (And.intro hU' (show (w.heap.size ≠ g6 ∧ w.heap.size ≠ g7) ∧ (g5 ≠ g6 ∧ g5 ≠ g7) by omega)))
  have kx_0 : W.cell? ⟨gx, 0, none⟩ = some (.int .i64 a.f0) := blk_cell bX 0
  have kx_1 : W.cell? ⟨gx, 1, none⟩ = some (.int .i64 a.f1) := blk_cell bX 1
  have kx_2 : W.cell? ⟨gx, 2, none⟩ = some (.int .i64 b.f0) := blk_cell bX 2
  have kx_3 : W.cell? ⟨gx, 3, none⟩ = some (.int .i64 b.f1) := blk_cell bX 3
  have ku_0 : W.cell? ⟨g5, 0, none⟩ = some (.bool sv) := blk_cell pV 0
  have ku_1 : W.cell? ⟨g5, 1, none⟩ = some (.slice Av nv cv) := blk_cell pV 1
  have ku_2 : W.cell? ⟨g5, 2, none⟩ = some (.bool tv) := blk_cell pV 2
  have ku_3 : W.cell? ⟨g5, 3, none⟩ = some (.slice Bv mv dv) := blk_cell pV 3
  have kuF := HFI.out.2
  obtain ⟨⟨l0, l1, l2, l3⟩, ⟨r0, r1, r2, r3⟩, hUb, hVb⟩ := HNP.out
  have ra0 : -9223372036854775808 ≤ a.f1 := by omega
  have ra1 : a.f1 ≤ 9223372036854775807 := by omega
  have rb0 : -9223372036854775808 ≤ b.f1 := by omega
  have rb1 : b.f1 ≤ 9223372036854775807 := by omega
  have fa : Fit a.f1 := Fit.small (by omega) (by omega)
  have fb : Fit b.f1 := Fit.small (by omega) (by omega)
  have fU : Fit V := Fit.small (by omega) (by omega)
  clear l0 l1 l2 l3 r0 r1 r2 r3 hUb hVb
  clear p6 p7 pU pV pS hB bX hl hr hlt hgx hU' hWs hstep hz hi0 ho0 hsz hg5 hg6 hg7 hgs b6 b7 bU bV bS hB0 ha hb hst
  gi_wp2
  refine regionIn_sure (r := some l) (n := 9 - 1 - 1) (by kernel_rfl) (by kernel_rfl) (by kernel_rfl) (fun base => base[9]? = some (.pointer (some ⟨gx, 0, none⟩)) ∧ base[5]? = some (.pointer (some ⟨g5, 0, none⟩))) [17, 18, 19, 20, 21, 22, 23, 24, 25, 26, 27, 28, 10, 11] [(fun _ v => v = .pointer (some ⟨gx, 0, none⟩)), (fun _ v => v = .pointer (some ⟨gx, 1, none⟩)), (fun _ v => v = .int .i64 a.f1), (fun w v => FI w v a.f1), (fun w v => FI w v V), (fun _ v => v = .int .i64 (cmp3 a.f1 V)), (fun _ v => v = .pointer (some ⟨gx, 2, none⟩)), (fun _ v => v = .pointer (some ⟨gx, 3, none⟩)), (fun _ v => v = .int .i64 b.f1), (fun w v => FI w v b.f1), (fun w v => FI w v V), (fun _ v => v = .int .i64 (cmp3 b.f1 V)), (fun _ v => v = .int .i64 (cmp3 a.f1 V)), (fun _ v => v = .int .i64 (cmp3 b.f1 V))] ?hB rfl (by decide) (by kernel_rfl) ?hstep ?hdone
  case hstep =>
   refine ⟨⟨mono_eq _, ar3_s0 rfl rfl rfl (by decide) (fun _ h => h.1)⟩, ?_⟩
   refine ⟨⟨mono_eq _, ar3_s1 rfl rfl rfl (by decide) rfl rfl⟩, ?_⟩
   refine ⟨⟨mono_eq _, ar3_s2 rfl rfl rfl (by decide) rfl rfl kx_1⟩, ?_⟩
   refine ⟨⟨(fun _ _ _ hk h => FI.below h hk), ar3_s3 rfl rfl rfl (by decide) rfl rfl ra0 ra1⟩, ?_⟩
   refine ⟨⟨(fun _ _ _ hk h => FI.below h hk), ar3_s4 rfl rfl rfl (by decide) (fun _ h => h.2) ku_0 ku_1 ku_2 ku_3 kuF⟩, ?_⟩
   refine ⟨⟨mono_eq _, ar3_s5 rfl rfl rfl (by decide) rfl rfl (by decide) rfl rfl fa fU⟩, ?_⟩
   refine ⟨⟨mono_eq _, ar3_s6 rfl rfl rfl (by decide) (fun _ h => h.1)⟩, ?_⟩
   refine ⟨⟨mono_eq _, ar3_s7 rfl rfl rfl (by decide) rfl rfl⟩, ?_⟩
   refine ⟨⟨mono_eq _, ar3_s8 rfl rfl rfl (by decide) rfl rfl kx_3⟩, ?_⟩
   refine ⟨⟨(fun _ _ _ hk h => FI.below h hk), ar3_s9 rfl rfl rfl (by decide) rfl rfl rb0 rb1⟩, ?_⟩
   refine ⟨⟨(fun _ _ _ hk h => FI.below h hk), ar3_s10 rfl rfl rfl (by decide) (fun _ h => h.2) ku_0 ku_1 ku_2 ku_3 kuF⟩, ?_⟩
   refine ⟨⟨mono_eq _, ar3_s11 rfl rfl rfl (by decide) rfl rfl (by decide) rfl rfl fb fU⟩, ?_⟩
   refine ⟨⟨mono_eq _, ar3_s12 rfl rfl rfl (by decide) rfl rfl⟩, ?_⟩
   refine ⟨⟨mono_eq _, ar3_s13 rfl rfl rfl (by decide) rfl rfl⟩, ?_⟩
   exact trivial
  case hB => exact ⟨rfl, rfl⟩
  case hdone =>
   intro vs W1 hv hb1
   obtain ⟨v0, vs1, rfl, rfl, hv1⟩ := hv.cons
   obtain ⟨v1, vs2, rfl, rfl, hv2⟩ := hv1.cons
   obtain ⟨v2, vs3, rfl, rfl, hv3⟩ := hv2.cons
   obtain ⟨v3, vs4, rfl, q3, hv4⟩ := hv3.cons
   obtain ⟨v4, vs5, rfl, q4, hv5⟩ := hv4.cons
   obtain ⟨v5, vs6, rfl, rfl, hv6⟩ := hv5.cons
   obtain ⟨v6, vs7, rfl, rfl, hv7⟩ := hv6.cons
   obtain ⟨v7, vs8, rfl, rfl, hv8⟩ := hv7.cons
   obtain ⟨v8, vs9, rfl, rfl, hv9⟩ := hv8.cons
   obtain ⟨v9, vs10, rfl, q9, hv10⟩ := hv9.cons
   obtain ⟨v10, vs11, rfl, q10, hv11⟩ := hv10.cons
   obtain ⟨v11, vs12, rfl, rfl, hv12⟩ := hv11.cons
   obtain ⟨v12, vs13, rfl, rfl, hv13⟩ := hv12.cons
   obtain ⟨v13, vs14, rfl, rfl, hv14⟩ := hv13.cons
   obtain rfl := hv14.nil
   simp only [laid, overlay, List.zipWith_cons_cons, List.zipWith_nil_left, List.zipWith_nil_right, List.foldl_cons, List.foldl_nil, List.setIfInBounds_toArray, List.set_cons_zero, List.set_cons_succ, List.drop_succ_cons, List.drop_zero]
   have HAR1 := Aside0.mk (HAR.out.below hb1)
   have HFI1 := Aside0.mk (And.intro (HFI.out.1.below hb1) (HFI.out.2.below hb1))
   have HW1 := Aside0.mk (And.intro (blk_below HW.out.1 hb1) (And.intro (blk_below HW.out.2.1 hb1) (blk_below HW.out.2.2 hb1)))
   have hzz := HZ.out
   unfold arStep at hzz
   dsimp only at hzz
   have hmul := cmp3_mul a.f1 V b.f1 V
   clear hb1 kx_0 kx_1 kx_2 kx_3 ku_0 ku_1 ku_2 ku_3 kuF ra0 ra1 rb0 rb1 fa fb fU HAR HFI HW q3 q4 q9 q10
   obtain ⟨A1, hA1⟩ : ∃ A1, cmp3 a.f1 V = A1 := ⟨_, rfl⟩
   obtain ⟨B1, hB1⟩ : ∃ B1, cmp3 b.f1 V = B1 := ⟨_, rfl⟩
   rw [hA1, hB1] at hzz hmul
   rw [hA1, hB1]
   clear hA1 hB1
   by_cases hAB : A1 * B1 > 0
   ·rw [if_pos hAB] at hzz
    have HZ1 := Aside0.mk hzz
    clear hzz
    gi_wp2
    rw [show EndA g6 g7 W z = EndA g6 g7 W (i0, o0) by rw [HZ1.out]]
    exact HAR1.out
   ·rw [if_neg hAB] at hzz
    have bX1 := HW1.out.2.2
    have kx_0 : W1.cell? ⟨gx, 0, none⟩ = some (.int .i64 a.f0) := blk_cell bX1 0
    have kx_1 : W1.cell? ⟨gx, 1, none⟩ = some (.int .i64 a.f1) := blk_cell bX1 1
    have kx_2 : W1.cell? ⟨gx, 2, none⟩ = some (.int .i64 b.f0) := blk_cell bX1 2
    have kx_3 : W1.cell? ⟨gx, 3, none⟩ = some (.int .i64 b.f1) := blk_cell bX1 3
    clear bX1
    by_cases hE : a.f1 = b.f1
    ·rw [if_pos hE] at hzz
     have HZ1 := Aside0.mk hzz
     clear hzz
     have hEb : (a.f1 == b.f1) = true := by rw [hE]; simp
     gi_wp2
     have k7 : W1.cell? ⟨g7, 0, none⟩ = some (.bool o0) := HAR1.out.b7.cell
     have pU := HW1.out.1
     have ku_0 : W1.cell? ⟨w.heap.size, 0, none⟩ = some (.bool su) := blk_cell pU 0
     have ku_1 : W1.cell? ⟨w.heap.size, 1, none⟩ = some (.slice Au nu cu) := blk_cell pU 1
     have ku_2 : W1.cell? ⟨w.heap.size, 2, none⟩ = some (.bool tu) := blk_cell pU 2
     have ku_3 : W1.cell? ⟨w.heap.size, 3, none⟩ = some (.slice Bu mu du) := blk_cell pU 3
     have kuF := HFI1.out.1
     obtain ⟨⟨l0, l1, l2, l3⟩, ⟨r0, r1, r2, r3⟩, hUb, hVb⟩ := HNP.out
     have hmn : -1048576 ≤ mn a.f0 b.f0 ∧ mn a.f0 b.f0 ≤ 1048576 := by unfold mn; split <;> omega
     have hmx : -1048576 ≤ mx a.f0 b.f0 ∧ mx a.f0 b.f0 ≤ 1048576 := by unfold mx; split <;> omega
     have rm0 : -9223372036854775808 ≤ mn a.f0 b.f0 := by omega
     have rm1 : mn a.f0 b.f0 ≤ 9223372036854775807 := by omega
     have rM0 : -9223372036854775808 ≤ mx a.f0 b.f0 := by omega
     have rM1 : mx a.f0 b.f0 ≤ 9223372036854775807 := by omega
     have fm : Fit (mn a.f0 b.f0) := Fit.small (by omega) (by omega)
     have fM : Fit (mx a.f0 b.f0) := Fit.small (by omega) (by omega)
     have fU : Fit U := Fit.small (by omega) (by omega)
     obtain ⟨c1, ec1⟩ : ∃ q, q = decide (cmp3 (mn a.f0 b.f0) U ≤ 0) := ⟨_, rfl⟩
     obtain ⟨c2, ec2⟩ : ∃ q, q = decide (cmp3 (mx a.f0 b.f0) U ≥ 0) := ⟨_, rfl⟩
     have hzq : z = (i0, o0 || (c1 && c2)) := by rw [HZ1.out, ec1, ec2]
     have HZ2 := Aside0.mk hzq
     clear hzq pU HZ1 hUb hVb
     refine regionIn_tail (r := (some l)) (n := 7) 27 (by kernel_rfl) (by kernel_rfl) (by kernel_rfl) (by kernel_rfl) (by kernel_rfl) (by decide) (fun base => base[9]? = some (.pointer (some ⟨gx, 0, none⟩)) ∧ base[4]? = some (.pointer (some ⟨w.heap.size, 0, none⟩)) ∧ base[7]? = some (.pointer (some ⟨g7, 0, none⟩))) [62, 63, 64, 65, 66, 67, 68, 69, 70, 71, 72, 73, 74, 75, 76, 77, 78, 79, 80, 81, 82, 83, 84, 85, 86, 87, 88] [(fun _ v => v = .bool o0), (fun _ v => v = .bool o0), (fun _ v => v = (if (!o0) = true then .pointer (some ⟨gx, 0, none⟩) else undef)), (fun _ v => v = (if (!o0) = true then .pointer (some ⟨gx, 0, none⟩) else undef)), (fun _ v => v = (if (!o0) = true then .int .i64 a.f0 else undef)), (fun _ v => v = (if (!o0) = true then .pointer (some ⟨gx, 2, none⟩) else undef)), (fun _ v => v = (if (!o0) = true then .pointer (some ⟨gx, 2, none⟩) else undef)), (fun _ v => v = (if (!o0) = true then .int .i64 b.f0 else undef)), (fun _ v => v = (if (!o0) = true then .int .i64 (mn a.f0 b.f0) else undef)), (fun w v => (!o0) = true → FI w v (mn a.f0 b.f0)), (fun w v => (!o0) = true → FI w v U), (fun _ v => v = (if (!o0) = true then .int .i64 (cmp3 (mn a.f0 b.f0) U) else undef)), (fun _ v => v = (if (!o0) = true then .bool c1 else undef)), (fun _ v => v = (if (!o0) = true then .bool c1 else undef)), (fun _ v => v = (if (!o0 && c1) = true then .pointer (some ⟨gx, 0, none⟩) else undef)), (fun _ v => v = (if (!o0 && c1) = true then .pointer (some ⟨gx, 0, none⟩) else undef)), (fun _ v => v = (if (!o0 && c1) = true then .int .i64 a.f0 else undef)), (fun _ v => v = (if (!o0 && c1) = true then .pointer (some ⟨gx, 2, none⟩) else undef)), (fun _ v => v = (if (!o0 && c1) = true then .pointer (some ⟨gx, 2, none⟩) else undef)), (fun _ v => v = (if (!o0 && c1) = true then .int .i64 b.f0 else undef)), (fun _ v => v = (if (!o0 && c1) = true then .int .i64 (mx a.f0 b.f0) else undef)), (fun w v => (!o0 && c1) = true → FI w v (mx a.f0 b.f0)), (fun w v => (!o0 && c1) = true → FI w v U), (fun _ v => v = (if (!o0 && c1) = true then .int .i64 (cmp3 (mx a.f0 b.f0) U) else undef)), (fun _ v => v = (if (!o0 && c1) = true then .bool c2 else undef)), (fun _ v => v = (if (!o0) = true then .bool (c1 && c2) else undef)), (fun _ v => v = .bool (o0 || (c1 && c2)))] ?hB rfl rfl (by decide) (by kernel_rfl) ?hstep ?hdone
     case hstep =>
      refine ⟨⟨mono_eq _, ar10_s0 rfl rfl rfl (by decide) (fun _ h => h.2.2) k7⟩, ?_⟩
      refine ⟨⟨mono_eq _, ar10_s1 rfl rfl rfl (by decide) rfl rfl⟩, ?_⟩
      refine ⟨⟨mono_eq _, ar10_s2 rfl rfl rfl (by decide) rfl rfl ⟨_, rfl, rfl⟩ (by decide) (fun _ h => h.1)⟩, ?_⟩
      refine ⟨⟨mono_eq _, ar10_s3 rfl rfl rfl (by decide) rfl rfl (by decide) rfl rfl ⟨_, rfl, rfl⟩⟩, ?_⟩
      refine ⟨⟨mono_eq _, ar10_s4 rfl rfl rfl (by decide) rfl rfl (by decide) rfl rfl ⟨_, rfl, rfl⟩ kx_0⟩, ?_⟩
      refine ⟨⟨mono_eq _, ar10_s5 rfl rfl rfl (by decide) rfl rfl ⟨_, rfl, rfl⟩ (by decide) (fun _ h => h.1)⟩, ?_⟩
      refine ⟨⟨mono_eq _, ar10_s6 rfl rfl rfl (by decide) rfl rfl (by decide) rfl rfl ⟨_, rfl, rfl⟩⟩, ?_⟩
      refine ⟨⟨mono_eq _, ar10_s7 rfl rfl rfl (by decide) rfl rfl (by decide) rfl rfl ⟨_, rfl, rfl⟩ kx_2⟩, ?_⟩
      refine ⟨⟨mono_eq _, ar10_s8 rfl rfl rfl (by decide) rfl rfl (by decide) rfl rfl (by decide) rfl rfl ⟨_, rfl, rfl⟩⟩, ?_⟩
      refine ⟨⟨(fun _ _ _ hk h q => FI.below (h q) hk), ar10_s9 rfl rfl rfl (by decide) rfl rfl (by decide) rfl rfl ⟨_, rfl, rfl⟩ rm0 rm1⟩, ?_⟩
      refine ⟨⟨(fun _ _ _ hk h q => FI.below (h q) hk), ar10_s10 rfl rfl rfl (by decide) rfl rfl ⟨_, rfl, rfl⟩ (by decide) (fun _ h => h.2.1) ku_0 ku_1 ku_2 ku_3 kuF⟩, ?_⟩
      refine ⟨⟨mono_eq _, ar10_s11 rfl rfl rfl (by decide) rfl rfl (by decide) rfl rfl (by decide) rfl rfl ⟨_, rfl, rfl⟩ fm fU⟩, ?_⟩
      refine ⟨⟨mono_eq _, ar10_s12 rfl rfl rfl (by decide) rfl rfl (by decide) rfl rfl ⟨_, rfl, rfl⟩ ec1⟩, ?_⟩
      refine ⟨⟨mono_eq _, ar10_s13 rfl rfl rfl (by decide) rfl rfl (by decide) rfl rfl ⟨_, rfl, rfl⟩⟩, ?_⟩
      refine ⟨⟨mono_eq _, ar10_s14 rfl rfl rfl (by decide) rfl rfl ⟨_, rfl, rfl⟩ (by decide) (fun _ h => h.1)⟩, ?_⟩
      refine ⟨⟨mono_eq _, ar10_s15 rfl rfl rfl (by decide) rfl rfl (by decide) rfl rfl ⟨_, rfl, rfl⟩⟩, ?_⟩
      refine ⟨⟨mono_eq _, ar10_s16 rfl rfl rfl (by decide) rfl rfl (by decide) rfl rfl ⟨_, rfl, rfl⟩ kx_0⟩, ?_⟩
      refine ⟨⟨mono_eq _, ar10_s17 rfl rfl rfl (by decide) rfl rfl ⟨_, rfl, rfl⟩ (by decide) (fun _ h => h.1)⟩, ?_⟩
      refine ⟨⟨mono_eq _, ar10_s18 rfl rfl rfl (by decide) rfl rfl (by decide) rfl rfl ⟨_, rfl, rfl⟩⟩, ?_⟩
      refine ⟨⟨mono_eq _, ar10_s19 rfl rfl rfl (by decide) rfl rfl (by decide) rfl rfl ⟨_, rfl, rfl⟩ kx_2⟩, ?_⟩
      refine ⟨⟨mono_eq _, ar10_s20 rfl rfl rfl (by decide) rfl rfl (by decide) rfl rfl (by decide) rfl rfl ⟨_, rfl, rfl⟩⟩, ?_⟩
      refine ⟨⟨(fun _ _ _ hk h q => FI.below (h q) hk), ar10_s21 rfl rfl rfl (by decide) rfl rfl (by decide) rfl rfl ⟨_, rfl, rfl⟩ rM0 rM1⟩, ?_⟩
      refine ⟨⟨(fun _ _ _ hk h q => FI.below (h q) hk), ar10_s22 rfl rfl rfl (by decide) rfl rfl ⟨_, rfl, rfl⟩ (by decide) (fun _ h => h.2.1) ku_0 ku_1 ku_2 ku_3 kuF⟩, ?_⟩
      refine ⟨⟨mono_eq _, ar10_s23 rfl rfl rfl (by decide) rfl rfl (by decide) rfl rfl (by decide) rfl rfl ⟨_, rfl, rfl⟩ fM fU⟩, ?_⟩
      refine ⟨⟨mono_eq _, ar10_s24 rfl rfl rfl (by decide) rfl rfl (by decide) rfl rfl ⟨_, rfl, rfl⟩ ec2⟩, ?_⟩
      refine ⟨⟨mono_eq _, ar10_s25 rfl rfl rfl (by decide) rfl rfl (by decide) rfl rfl (by decide) rfl rfl ⟨_, rfl, rfl⟩⟩, ?_⟩
      refine ⟨⟨mono_eq _, ar10_s26 rfl rfl rfl (by decide) rfl rfl (by decide) rfl rfl⟩, ?_⟩
      exact trivial
     case hB => exact ⟨rfl, rfl, rfl⟩
     case hdone =>
      intro vs W2 hv hb2
      obtain ⟨v0, vs1, rfl, rfl, hv1⟩ := hv.cons
      obtain ⟨v1, vs2, rfl, rfl, hv2⟩ := hv1.cons
      obtain ⟨v2, vs3, rfl, -, hv3⟩ := hv2.cons
      obtain ⟨v3, vs4, rfl, -, hv4⟩ := hv3.cons
      obtain ⟨v4, vs5, rfl, -, hv5⟩ := hv4.cons
      obtain ⟨v5, vs6, rfl, -, hv6⟩ := hv5.cons
      obtain ⟨v6, vs7, rfl, -, hv7⟩ := hv6.cons
      obtain ⟨v7, vs8, rfl, -, hv8⟩ := hv7.cons
      obtain ⟨v8, vs9, rfl, -, hv9⟩ := hv8.cons
      obtain ⟨v9, vs10, rfl, -, hv10⟩ := hv9.cons
      obtain ⟨v10, vs11, rfl, -, hv11⟩ := hv10.cons
      obtain ⟨v11, vs12, rfl, -, hv12⟩ := hv11.cons
      obtain ⟨v12, vs13, rfl, -, hv13⟩ := hv12.cons
      obtain ⟨v13, vs14, rfl, -, hv14⟩ := hv13.cons
      obtain ⟨v14, vs15, rfl, -, hv15⟩ := hv14.cons
      obtain ⟨v15, vs16, rfl, -, hv16⟩ := hv15.cons
      obtain ⟨v16, vs17, rfl, -, hv17⟩ := hv16.cons
      obtain ⟨v17, vs18, rfl, -, hv18⟩ := hv17.cons
      obtain ⟨v18, vs19, rfl, -, hv19⟩ := hv18.cons
      obtain ⟨v19, vs20, rfl, -, hv20⟩ := hv19.cons
      obtain ⟨v20, vs21, rfl, -, hv21⟩ := hv20.cons
      obtain ⟨v21, vs22, rfl, -, hv22⟩ := hv21.cons
      obtain ⟨v22, vs23, rfl, -, hv23⟩ := hv22.cons
      obtain ⟨v23, vs24, rfl, -, hv24⟩ := hv23.cons
      obtain ⟨v24, vs25, rfl, -, hv25⟩ := hv24.cons
      obtain ⟨v25, vs26, rfl, -, hv26⟩ := hv25.cons
      obtain ⟨v26, vs27, rfl, rfl, hv27⟩ := hv26.cons
      obtain rfl := hv27.nil
      simp only [laid, overlay, List.zipWith_cons_cons, List.zipWith_nil_left, List.zipWith_nil_right, List.foldl_cons, List.foldl_nil, List.setIfInBounds_toArray, List.set_cons_zero, List.set_cons_succ, List.drop_succ_cons, List.drop_zero]
      rw [fr_some]
      have HAR2 := Aside0.mk (HAR1.out.below hb2)
      have k7' := HAR2.out.b7.cell
      have z7 := HAR2.out.b7.frozen
      clear hb2 k7 ku_0 ku_1 ku_2 ku_3 kuF rm0 rm1 rM0 rM1 fm fM fU ec1 ec2 hmn hmx kx_0 kx_1 kx_2 kx_3
      obtain ⟨oo, hoo⟩ : ∃ oo, (o0 || (c1 && c2)) = oo := ⟨_, rfl⟩
      have HZ3 := Aside0.mk (show z = (i0, oo) by rw [HZ2.out, hoo])
      rw [hoo]
      clear hoo
      gi_wp2
      exact (AR.set7 HNE67.out.1 HAR2.out oo).cast HZ3.out.symm
    ·rw [if_neg hE] at hzz
     have HZ1 := Aside0.mk hzz
     clear hzz
     have pU := HW1.out.1
     have pV := HW1.out.2.1
     have ku_0 : W1.cell? ⟨w.heap.size, 0, none⟩ = some (.bool su) := blk_cell pU 0
     have ku_1 : W1.cell? ⟨w.heap.size, 1, none⟩ = some (.slice Au nu cu) := blk_cell pU 1
     have ku_2 : W1.cell? ⟨w.heap.size, 2, none⟩ = some (.bool tu) := blk_cell pU 2
     have ku_3 : W1.cell? ⟨w.heap.size, 3, none⟩ = some (.slice Bu mu du) := blk_cell pU 3
     have kv_0 : W1.cell? ⟨g5, 0, none⟩ = some (.bool sv) := blk_cell pV 0
     have kv_1 : W1.cell? ⟨g5, 1, none⟩ = some (.slice Av nv cv) := blk_cell pV 1
     have kv_2 : W1.cell? ⟨g5, 2, none⟩ = some (.bool tv) := blk_cell pV 2
     have kv_3 : W1.cell? ⟨g5, 3, none⟩ = some (.slice Bv mv dv) := blk_cell pV 3
     have hEb : (a.f1 == b.f1) = false := beq_eq_false_iff_ne.mpr hE
     clear pU pV
     gi_wp2
     refine ⟨trivial, ?_⟩
     refine (CallsIn.inRound l (callsIn_wide.2 (side_calls a b _ _ U V W1 HFI1.out.1 HFI1.out.2 HFAR.out.1 HFAR.out.2 HN.out.1 HN.out.2))).mono ?_
     rintro e W2 ⟨rfl, hb2⟩
     have HAR2 := Aside0.mk (HAR1.out.below hb2)
     have k6' := HAR2.out.b6.cell
     have z6 := HAR2.out.b6.frozen
     have k7' := HAR2.out.b7.cell
     have z7 := HAR2.out.b7.frozen
     have hn67 : g6 ≠ g7 := HNE67.out.1
     have hn76 : g7 ≠ g6 := Ne.symm hn67
     have hzz := HZ1.out
     clear hb2 ku_0 ku_1 ku_2 ku_3 kv_0 kv_1 kv_2 kv_3 kx_0 kx_1 kx_2 kx_3 HZ1
     obtain ⟨S, hS⟩ : ∃ S, sideP a b U V = S := ⟨_, rfl⟩
     rw [hS] at hzz ⊢
     have HZ2 := Aside0.mk hzz
     clear hzz hS hAB hE hEb hmul
     have AE : ∀ (Wz : World) (s : Bool × Bool), AR g6 g7 W Wz s → s = z → EndA g6 g7 W z .normal ⟨#[], []⟩ Wz := fun Wz s h e => h.cast e
     cases o0 <;> by_cases hS0 : S = 0 <;> by_cases hA : A1 ≤ 0 <;> by_cases hB : B1 ≤ 0 <;> by_cases hP : S > 0 <;>
      first
       | (exfalso; omega)
       | (gi_wp2 <;>
          first
           | exact (AR.set7 hn67 HAR2.out _).cast (by rw [HZ2.out]; first | (simp [hS0, hA, hB, hP]; done) | (simp [hS0, hA, hB, hP]; omega))
           | exact (AR.set6 hn67 (AR.set7 hn67 HAR2.out _) _).cast (by rw [HZ2.out]; first | (simp [hS0, hA, hB, hP]; done) | (simp [hS0, hA, hB, hP]; omega))
           | (exfalso; omega)
           | (exfalso; simp_all; done)
           | (exfalso; simp_all; omega))
 case done =>
  rintro D ys W hD hys ⟨⟨⟨⟨⟨p6, p7⟩, pU⟩, pV⟩, pS⟩, hB⟩ hK
  have hst2 : st ys = aroundP ps U V := by rw [hst]; dsimp only; rw [hys]; rfl
  rw [hst2] at p6 p7
  have hne : g6 ≠ g7 := by omega
  have hA0 : AR g6 g7 W W ((aroundP ps U V).1, (aroundP ps U V).2) := ⟨rfl, rfl, rfl, Nat.le_refl _, fun _ _ _ _ => rfl, p6, p7⟩
  have HX := Aside0.mk (And.intro hB0 (And.intro hB (And.intro hD (And.intro hK (And.intro hsz (And.intro hg5 (And.intro hg6 (And.intro hg7 hgs))))))))
  clear p6 p7 pU pV pS hB hK hsz hst hst2 hys
  obtain ⟨i, hi⟩ : ∃ i, (aroundP ps U V).1 = i := ⟨_, rfl⟩
  obtain ⟨o, ho⟩ : ∃ o, (aroundP ps U V).2 = o := ⟨_, rfl⟩
  rw [hi, ho] at hA0
  have HIO := Aside0.mk (And.intro hi ho)
  go_upto_region 11 with (first | fail)
  refine (wpIn_wide (n := 9)).1 ?_
  refine ar11 (r := none) (n := 9) (g6 := g6) (g7 := g7) (i := i) (o := o) (W := W) _ _ _ _ rfl (by kernel_rfl) (by kernel_rfl) rfl rfl rfl rfl rfl rfl rfl rfl rfl rfl rfl rfl (by decide) (by decide) rfl rfl rfl hne hA0 ?_
  intro W2 hA2
  simp only [laid, overlay, List.zipWith_cons_cons, List.zipWith_nil_left, List.zipWith_nil_right, List.foldl_cons, List.foldl_nil, List.setIfInBounds_toArray, List.set_cons_zero, List.set_cons_succ, List.drop_succ_cons, List.drop_zero]
  obtain ⟨hB0, hB, hD, hK, hsz, hg5, hg6, hg7, hgs⟩ := HX.out
  have hK2 : W2.heap[D]? = some (.deferred (some [])) := (hA2.blk D (Array.getElem?_eq_some_iff.1 hK).1 (by omega) (by omega)).trans hK
  have hc6 := cell_kept hA2.b6.cell (grownBy_putObj' _ D (.deferred none)) (fun r e => by cases e; exact ⟨_, hK2, rfl⟩)
  have hc7 := cell_kept hA2.b7.cell (grownBy_putObj' _ D (.deferred none)) (fun r e => by cases e; exact ⟨_, hK2, rfl⟩)
  have hbw : Below w.heap.size W W2 := ⟨hA2.os, hA2.tape, hA2.output, hA2.size, fun k hk => hA2.blk k (by have := (hB0.trans hB).size; omega) (by omega) (by omega)⟩
  have hfin := ((hB0.trans hB).trans hbw).trans (belowK_b (w := w) (Nat.le_refl _) W2 D _ (.deferred none) (by omega) hK2 rfl rfl)
  have HK2 := Aside0.mk hK2
  have HC67 := Aside0.mk (And.intro hc6 (And.intro hc7 hfin))
  clear hK2 hc6 hc7 hfin hbw hB0 hB hD hK hsz hg5 hg6 hg7 hgs hA2
  go_wp2
  refine ⟨by simp, .inl ⟨_, _, rfl, run_takeDeferred HK2.out, ?_⟩⟩
  obtain ⟨hc6, hc7, hfin⟩ := HC67.out
  refine ⟨.tuple #[.bool i, .bool o], ?_, ?_, hfin⟩
  ·simp [results, Try.f40, go_sem, hc6, hc7]
  ·rfl
 case stop =>
  rintro D cc pre W _ _ h _
  exact h.elim
end Go.Proofs.Ytjmkccabpnigiaa.P
