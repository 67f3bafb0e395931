import Derived.Test.YtjmkccabpnigiaaQPolyK0
import Derived.Test.YtjmkccabpnigiaaQPolyI
namespace Go.Proofs.Ytjmkccabpnigiaa.P
open Go.RowKit Go.Proofs.YtjmkccabpnigiaaW.PrintWords Go.Proofs.YtjmkccabpnigiaaW.PrintLast Go.Proofs.YtjmkccabpnigiaaW.PrintMore
attribute [local go_sem] max2_int min2_int max_two min_two max_three min_three max_four min_four
set_option linter.unusedVariables false
set_option linter.unusedSimpArgs false
/-- The blocks of side. -/
structure SI (w W : World) (g7 g8 gu gv : Nat) (lo hi : S26) (cu cv : Array Value) (U V : Int) : Prop where
 h7 : W.heap[g7]? = some (.cells #[.int .i64 lo.f0, .int .i64 lo.f1] 26 (0, 0))
 h8 : W.heap[g8]? = some (.cells #[.int .i64 hi.f0, .int .i64 hi.f1] 26 (0, 0))
 hu : W.heap[gu]? = some (.cells cu 45 (0, 0))
 hv : W.heap[gv]? = some (.cells cv 45 (0, 0))
 fu : FI W (.agg cu) U
 fv : FI W (.agg cv) V
 hb : Below w.heap.size w W
theorem SI.below {w W W' : World} {g7 g8 gu gv : Nat} {lo hi : S26} {cu cv : Array Value} {U V : Int} (h : SI w W g7 g8 gu gv lo hi cu cv U V) (hb : Below W.heap.size W W') : SI w W' g7 g8 gu gv lo hi cu cv U V :=
 ⟨blk_below h.h7 hb, blk_below h.h8 hb, blk_below h.hu hb, blk_below h.hv hb, h.fu.below hb, h.fv.below hb, below_step h.hb hb⟩
/-- A box that holds the fraction z. -/
structure BF (W : World) (g : Nat) (cs : Array Value) (z : Int) : Prop where
 blk : W.heap[g]? = some (.cells cs 45 (0, 0))
 fi : FI W (.agg cs) z
theorem BF.below {W W' : World} {g : Nat} {cs : Array Value} {z : Int} (h : BF W g cs z) (hb : Below W.heap.size W W') : BF W' g cs z := ⟨blk_below h.blk hb, h.fi.below hb⟩
theorem BF.parts {W : World} {g : Nat} {cs : Array Value} {z : Int} (h : BF W g cs z) : ∃ (s : Bool) (A : Option Addr) (n c : Nat) (s' : Bool) (A' : Option Addr) (n' c' : Nat), cs = #[.bool s, .slice A n c, .bool s', .slice A' n' c'] := by
 obtain ⟨s, A, n, c, s', A', n', c', e, _⟩ := h.fi
 exact ⟨s, A, n, c, s', A', n', c', by injection e⟩
def sideLo (a b : S26) : S26 := if b.f1 < a.f1 then b else a
def sideHi (a b : S26) : S26 := if b.f1 < a.f1 then a else b
/-- On which side of an edge a point is. -/
def sideP (a b : S26) (U V : Int) : Int := cmp3 ((V - (sideLo a b).f1) * ((sideHi a b).f0 - (sideLo a b).f0)) ((U - (sideLo a b).f0) * ((sideHi a b).f1 - (sideLo a b).f1))
theorem prod_mid {x y : Int} (h1 : -8589934592 ≤ x) (h2 : x ≤ 8589934592) (h3 : -2097152 ≤ y) (h4 : y ≤ 2097152) : -18014398509481984 ≤ x * y ∧ x * y ≤ 18014398509481984 := by
 have a := Int.mul_nonneg (show 0 ≤ 8589934592 - x by omega) (show 0 ≤ 2097152 - y by omega)
 have b := Int.mul_nonneg (show 0 ≤ 8589934592 + x by omega) (show 0 ≤ 2097152 + y by omega)
 have c := Int.mul_nonneg (show 0 ≤ 8589934592 - x by omega) (show 0 ≤ 2097152 + y by omega)
 have d := Int.mul_nonneg (show 0 ≤ 8589934592 + x by omega) (show 0 ≤ 2097152 - y by omega)
 simp only [Int.sub_mul, Int.mul_sub, Int.add_mul, Int.mul_add] at a b c d
 omega
set_option maxRecDepth 100000 in
set_option maxHeartbeats 8000000 in
theorem side_calls (a b : S26) (u v : Value) (U V : Int) (w : World) (hu : FI w u U) (hv : FI w v V) (ha : farP a = false) (hb : farP b = false) (hU : -4294967296 ≤ U ∧ U ≤ 4294967296) (hV : -4294967296 ≤ V ∧ V ≤ 4294967296) :
    Calls Try.prog 52 #[.agg #[.int .i64 a.f0, .int .i64 a.f1, .int .i64 b.f0, .int .i64 b.f1], u, v] w fun e w' => e = .returned (.int .i64 (sideP a b U V)) ∧ Below w.heap.size w w' := by
 have hu26 := Try.underlying26
 have hu45 := Try.underlying45
 have hu53 := Try.underlying53
 have HFu := Aside0.mk hu
 have HFv := Aside0.mk hv
 obtain ⟨su, Au, nu, cu, tu, Bu, mu, du, rfl, _⟩ := hu
 obtain ⟨sv, Av, nv, cv, tv, Bv, mv, dv, rfl, _⟩ := hv
 have HN := Aside0.mk (And.intro (near_pt ha) (And.intro (near_pt hb) (And.intro hU hV)))
 clear ha hb hU hV
 have h3 := three_new w (.cells #[.int .i64 a.f0, .int .i64 a.f1, .int .i64 b.f0, .int .i64 b.f1] 53) (.cells #[.bool su, .slice Au nu cu, .bool tu, .slice Bu mu du] 45) (.cells #[.bool sv, .slice Av nv cv, .bool tv, .slice Bv mv dv] 45)
 have hbl := below_alloc (below_alloc (below_alloc (Below.refl w.heap.size w) (.cells #[.int .i64 a.f0, .int .i64 a.f1, .int .i64 b.f0, .int .i64 b.f1] 53)) (.cells #[.bool su, .slice Au nu cu, .bool tu, .slice Bu mu du] 45)) (.cells #[.bool sv, .slice Av nv cv, .bool tv, .slice Bv mv dv] 45)
 have H3 := Aside0.mk (And.intro h3.2 hbl)
 clear h3 hbl
 go_enter Try.func52, Try.ntmps52
 go_upto_region 1 with (first | fail)
 obtain ⟨W0, hW0⟩ : ∃ W0, ((w.alloc (.cells #[.int .i64 a.f0, .int .i64 a.f1, .int .i64 b.f0, .int .i64 b.f1] 53)).alloc (.cells #[.bool su, .slice Au nu cu, .bool tu, .slice Bu mu du] 45)).alloc (.cells #[.bool sv, .slice Av nv cv, .bool tv, .slice Bv mv dv] 45) = W0 := ⟨_, rfl⟩
 rw [hW0] at H3 ⊢
 obtain ⟨⟨b3, b4, b5⟩, hb0⟩ := H3.out
 clear hW0
 have k3_0 : W0.cell? ⟨w.heap.size, 0, none⟩ = some (.int .i64 a.f0) := blk_cell b3 0
 have k3_1 : W0.cell? ⟨w.heap.size, 1, none⟩ = some (.int .i64 a.f1) := blk_cell b3 1
 have k3_2 : W0.cell? ⟨w.heap.size, 2, none⟩ = some (.int .i64 b.f0) := blk_cell b3 2
 have k3_3 : W0.cell? ⟨w.heap.size, 3, none⟩ = some (.int .i64 b.f1) := blk_cell b3 3
 have HB := Aside0.mk (And.intro b4 (And.intro b5 hb0))
 clear b3 b4 b5 hb0 H3
 refine (wpIn_wide (n := 5)).1 ?_
 refine regionIn_box2 (r := none) (n := 5) (by kernel_rfl) (by kernel_rfl) (by kernel_rfl) anyR (fun _ _ _ => trivial) (fun base => base[3]? = some (.pointer (some ⟨w.heap.size, 0, none⟩))) [.sure 17 (fun _ v => v = .pointer (some ⟨w.heap.size, 0, none⟩)), .sure 18 (fun _ v => v = .agg #[.int .i64 a.f0, .int .i64 a.f1]), .sure 19 (fun _ v => v = .pointer (some ⟨w.heap.size, 2, none⟩)), .sure 20 (fun _ v => v = .agg #[.int .i64 b.f0, .int .i64 b.f1]), .box 7 26 zo26 (fun _ cs => cs = #[.int .i64 a.f0, .int .i64 a.f1]), .box 8 26 zo26 (fun _ cs => cs = #[.int .i64 b.f0, .int .i64 b.f1]), .put 4 7 26 zo26 (fun _ cs => cs = #[.int .i64 a.f0, .int .i64 a.f1]), .put 5 8 26 zo26 (fun _ cs => cs = #[.int .i64 b.f0, .int .i64 b.f1])] [17, 18, 19, 20, 7, 8] rfl ?hB (by kernel_rfl) (by kernel_rfl) (by decide) (by kernel_rfl) ?hks ?hdone
 case hks =>
  refine ⟨⟨(fun _ _ _ _ h => h), sd1_s0 rfl rfl rfl (nin (by rfl)) (fun _ h => h)⟩, ?_⟩
  refine ⟨⟨(fun _ _ _ _ h => h), sd1_s1 rfl rfl rfl (by decide) rfl rfl k3_0 k3_1⟩, ?_⟩
  refine ⟨⟨(fun _ _ _ _ h => h), sd1_s2 rfl rfl rfl (nin (by rfl)) (fun _ h => h)⟩, ?_⟩
  refine ⟨⟨(fun _ _ _ _ h => h), sd1_s3 rfl rfl rfl (by decide) rfl rfl k3_2 k3_3⟩, ?_⟩
  refine ⟨⟨fun _ _ _ _ h => h, rfl, rfl, box26 rfl rfl⟩, ?_⟩
  refine ⟨⟨fun _ _ _ _ h => h, rfl, rfl, box26 rfl rfl⟩, ?_⟩
  refine ⟨⟨rfl, rfl, by decide, put_26 rfl rfl (j := 1) (by decide) rfl rfl (by decide) (fun w v h => ⟨_, _, h, fun _ => rfl⟩)⟩, ?_⟩
  refine ⟨⟨rfl, rfl, by decide, put_26 rfl rfl (j := 3) (by decide) rfl rfl (by decide) (fun w v h => ⟨_, _, h, fun _ => rfl⟩)⟩, ?_⟩
  exact trivial
 case hB => exact rfl
 case hdone =>
  intro G vs W1 hnd hv hb1
  obtain ⟨v0, vs1, rfl, rfl, hv1⟩ := hv.sure_
  obtain ⟨v1, vs2, rfl, rfl, hv2⟩ := hv1.sure_
  obtain ⟨v2, vs3, rfl, rfl, hv3⟩ := hv2.sure_
  obtain ⟨v3, vs4, rfl, rfl, hv4⟩ := hv3.sure_
  obtain ⟨vs5, rfl, ge7, ⟨cs7, cb7, cc7⟩, hv5⟩ := hv4.box_
  obtain ⟨vs6, rfl, ge8, ⟨cs8, cb8, cc8⟩, hv6⟩ := hv5.box_
  have hv7 := hv6.put_
  have hv8 := hv7.put_
  obtain rfl := hv8.nil_
  clear hv hv1 hv2 hv3 hv4 hv5 hv6 hv7 hv8
  obtain ⟨g7, hg7⟩ : ∃ g, G 7 = g := ⟨_, rfl⟩
  obtain ⟨g8, hg8⟩ : ∃ g, G 8 = g := ⟨_, rfl⟩
  have hne : g7 ≠ g8 := by
   simp only [bslots, List.map_cons, List.map_nil, hg7, hg8] at hnd
   intro e
   rw [e] at hnd
   simp at hnd
  rw [hg7] at cb7 ge7
  rw [hg8] at cb8 ge8
  subst cc7 cc8
  simp only [laid, overlay, List.zipWith_cons_cons, List.zipWith_nil_left, List.zipWith_nil_right, List.foldl_cons, List.foldl_nil, List.setIfInBounds_toArray, List.set_cons_zero, List.set_cons_succ, hg7, hg8]
  obtain ⟨b4, b5, hb0⟩ := HB.out
  have hs0 := hb0.size
  have b4' := blk_below b4 hb1
  have b5' := blk_below b5 hb1
  have fu := (HFu.out.below hb0).below hb1
  have fv := (HFv.out.below hb0).below hb1
  have hbw := below_step hb0 hb1
  have h4n : ∀ g, W0.heap.size ≤ g → w.heap.size + 1 ≠ g ∧ w.heap.size + 1 + 1 ≠ g := fun g hg => by
   have l4 := (Array.getElem?_eq_some_iff.1 b4).1
   have l5 := (Array.getElem?_eq_some_iff.1 b5).1
   omega
  -- low and high
  refine ‹∀ (a : Act) (w : World), Code.wp Try.prog _ _ a w → _› _ _ ?_
  refine wp_seq_k ?_
  intro K2 hK2
  go_cut [25] (fun s25 wx => Aside0 (SI w wx g7 g8 (w.heap.size + 1) (w.heap.size + 1 + 1) (sideLo a b) (sideHi a b) #[.bool su, .slice Au nu cu, .bool tu, .slice Bu mu du] #[.bool sv, .slice Av nv cv, .bool tv, .slice Bv mv dv] U V))
  case first =>
   have c70 : W1.cell? ⟨g7, 0, none⟩ = some (.int .i64 a.f0) := blk_cell cb7 0
   have c71 : W1.cell? ⟨g7, 1, none⟩ = some (.int .i64 a.f1) := blk_cell cb7 1
   have c80 : W1.cell? ⟨g8, 0, none⟩ = some (.int .i64 b.f0) := blk_cell cb8 0
   have c81 : W1.cell? ⟨g8, 1, none⟩ = some (.int .i64 b.f1) := blk_cell cb8 1
   have z70 := blk_frozen cb7 0
   have z71 := blk_frozen cb7 1
   have z80 := blk_frozen cb8 0
   have z81 := blk_frozen cb8 1
   have p7 := put2 cb7 (.int .i64 b.f0) (.int .i64 b.f1)
   have cb8' := (p7.2.2.2.2.2 g8 (Array.getElem?_eq_some_iff.1 cb8).1 (Ne.symm hne)).trans cb8
   have p8 := put2 cb8' (.int .i64 a.f0) (.int .i64 a.f1)
   have HS := Aside0.mk (And.intro p7 (And.intro p8 (And.intro cb7 (And.intro cb8 (And.intro b4' (And.intro b5' (And.intro fu (And.intro fv hbw))))))))
   clear p7 p8 cb8' cb7 cb8 b4' b5' fu fv hbw hnd hg7 hg8 b4 b5 hb0 hb1
   have HG := Aside0.mk (And.intro ge7 (And.intro ge8 (And.intro hne (And.intro hs0 h4n))))
   have hne2 : g8 ≠ g7 := Ne.symm hne
   clear ge7 ge8 h4n hs0
   by_cases hs : b.f1 < a.f1
   ·go_wp2
    go_meet
    obtain ⟨p7, p8, cb7, cb8, b4', b5', fu, fv, hbw⟩ := HS.out
    obtain ⟨ge7, ge8, _, hs0, h4n⟩ := HG.out
    have hbf := p8.2.below (p7.2.below hbw (by omega)) (by omega)
    have l4 := (Array.getElem?_eq_some_iff.1 b4').1
    have l5 := (Array.getElem?_eq_some_iff.1 b5').1
    have q4 := (p7.2.2.2.2.2 _ l4 (h4n g7 ge7).1).trans b4'
    have q5 := (p7.2.2.2.2.2 _ l5 (h4n g7 ge7).2).trans b5'
    refine ⟨?_, ?_, ?_, ?_, HFu.out.below hbf, HFv.out.below hbf, hbf⟩
    ·unfold sideLo
     rw [if_pos (by omega)]
     exact (p8.2.2.2.2.2 g7 (Array.getElem?_eq_some_iff.1 p7.1).1 hne).trans p7.1
    ·unfold sideHi
     rw [if_pos (by omega)]
     exact p8.1
    ·exact (p8.2.2.2.2.2 _ (Array.getElem?_eq_some_iff.1 q4).1 (h4n g8 ge8).1).trans q4
    ·exact (p8.2.2.2.2.2 _ (Array.getElem?_eq_some_iff.1 q5).1 (h4n g8 ge8).2).trans q5
   ·go_wp2
    go_meet
    obtain ⟨p7, p8, cb7, cb8, b4', b5', fu, fv, hbw⟩ := HS.out
    refine ⟨?_, ?_, b4', b5', fu, fv, hbw⟩
    ·unfold sideLo
     rw [if_neg (by omega)]
     exact cb7
    ·unfold sideHi
     rw [if_neg (by omega)]
     exact cb8
  case rest =>
   have HI := hcut
   clear hcut ge7 ge8 hne cb7 cb8 b4' b5' fu fv hbw hnd hg7 hg8 b4 b5 hb0 hb1 h4n HB HFu HFv hs0
   obtain ⟨W, rfl⟩ : ∃ W : World, W = wc := ⟨_, rfl⟩
   obtain ⟨lo, hlo⟩ : ∃ l, sideLo a b = l := ⟨_, rfl⟩
   obtain ⟨hi, hhi⟩ : ∃ l, sideHi a b = l := ⟨_, rfl⟩
   have hbd : (-1048576 ≤ lo.f0 ∧ lo.f0 ≤ 1048576 ∧ -1048576 ≤ lo.f1 ∧ lo.f1 ≤ 1048576) ∧ (-1048576 ≤ hi.f0 ∧ hi.f0 ≤ 1048576 ∧ -1048576 ≤ hi.f1 ∧ hi.f1 ≤ 1048576) := by
    obtain ⟨n1, n2, _⟩ := HN.out
    unfold sideLo at hlo
    unfold sideHi at hhi
    split at hlo
    ·rename_i h; rw [if_pos h] at hhi; subst hlo hhi; exact ⟨n2, n1⟩
    ·rename_i h; rw [if_neg h] at hhi; subst hlo hhi; exact ⟨n1, n2⟩
   have HP := Aside0.mk (show sideP a b U V = cmp3 ((V - lo.f1) * (hi.f0 - lo.f0)) ((U - lo.f0) * (hi.f1 - lo.f1)) by unfold sideP; rw [hlo, hhi])
   rw [hlo, hhi] at HI
   have HBD := Aside0.mk (And.intro hbd HN.out.2.2)
   clear hlo hhi hbd HN
   have h4 : w.heap.size + 1 = w.heap.size + 1 := rfl
   obtain ⟨gu, hgu⟩ : ∃ g, w.heap.size + 1 + 1 = g := ⟨_, rfl⟩
   obtain ⟨gt, hgt⟩ : ∃ g, w.heap.size + 1 = g := ⟨_, rfl⟩
   rw [hgu, hgt] at HI
   rw [hgu, hgt]
   clear h4
   go_wp2
   have k7_0 : W.cell? ⟨g7, 0, none⟩ = some (.int .i64 lo.f0) := blk_cell HI.out.h7 0
   have k7_1 : W.cell? ⟨g7, 1, none⟩ = some (.int .i64 lo.f1) := blk_cell HI.out.h7 1
   have k8_0 : W.cell? ⟨g8, 0, none⟩ = some (.int .i64 hi.f0) := blk_cell HI.out.h8 0
   have k8_1 : W.cell? ⟨g8, 1, none⟩ = some (.int .i64 hi.f1) := blk_cell HI.out.h8 1
   have ku_0 : W.cell? ⟨gu, 0, none⟩ = some (.bool sv) := blk_cell HI.out.hv 0
   have ku_1 : W.cell? ⟨gu, 1, none⟩ = some (.slice Av nv cv) := blk_cell HI.out.hv 1
   have ku_2 : W.cell? ⟨gu, 2, none⟩ = some (.bool tv) := blk_cell HI.out.hv 2
   have ku_3 : W.cell? ⟨gu, 3, none⟩ = some (.slice Bv mv dv) := blk_cell HI.out.hv 3
   have kuF := HI.out.fv
   obtain ⟨⟨⟨_, _, l0, l1⟩, _⟩, hUb, hVb⟩ := HBD.out
   have hb0 : -9223372036854775808 ≤ lo.f1 := by omega
   have hb1 : lo.f1 ≤ 9223372036854775807 := by omega
   have hfx : Fit V := Fit.small (by omega) (by omega)
   have hfy : Fit lo.f1 := Fit.small (by omega) (by omega)
   have hfz : Fit (V - lo.f1) := Fit.small (by omega) (by omega)
   refine (wpIn_wide (n := 5)).1 ?_
   refine regionIn_box2 (r := none) (n := 5) (by kernel_rfl) (by kernel_rfl) (by kernel_rfl) IntKeep (fun _ _ h => IntKeep.below h) (fun base => base[5]? = some (.pointer (some ⟨gu, 0, none⟩)) ∧ base[7]? = some (.pointer (some ⟨g7, 0, none⟩))) [.sure 29 (fun w v => FI w v V), .sure 30 (fun _ v => v = .pointer (some ⟨g7, 1, none⟩)), .sure 31 (fun _ v => v = .int .i64 lo.f1), .sure 32 (fun w v => FI w v lo.f1), .sure 33 (fun w v => ∃ r, v = .tuple #[r, .int .i64 0] ∧ FI w r (V - lo.f1)), .sure 28 (fun w v => ∃ r, v = .tuple #[r, .int .i64 0] ∧ FI w r (V - lo.f1)), .sure 34 (fun w v => FI w v (V - lo.f1)), .sure 35 (fun _ v => v = .int .i64 0), .box 9 45 zo45 (CF (V - lo.f1)), .put 8 9 45 zo45 (CF (V - lo.f1)), .sure 10 (fun _ v => v = .int .i64 0)] [29, 30, 31, 32, 33, 28, 34, 35, 9, 10] rfl ?hB (by kernel_rfl) (by kernel_rfl) (by decide) (by kernel_rfl) ?hks ?hdone
   case hks =>
    refine ⟨⟨(fun _ _ _ hk h => FI.keep h hk), sd4_s0 rfl rfl rfl (nin (by rfl)) (fun _ h => h.1) ku_0 ku_1 ku_2 ku_3 kuF⟩, ?_⟩
    refine ⟨⟨(fun _ _ _ _ h => h), sd4_s1 rfl rfl rfl (nin (by rfl)) (fun _ h => h.2)⟩, ?_⟩
    refine ⟨⟨(fun _ _ _ _ h => h), sd4_s2 rfl rfl rfl (by decide) rfl rfl k7_1⟩, ?_⟩
    refine ⟨⟨(fun _ _ _ hk h => FI.keep h hk), sd4_s3 rfl rfl rfl (by decide) rfl rfl hb0 hb1⟩, ?_⟩
    refine ⟨⟨(fun _ _ _ hk h => (let ⟨r, e, f⟩ := h; ⟨r, e, FI.keep f hk⟩)), sd4_s4 rfl rfl rfl (by decide) rfl rfl (by decide) rfl rfl hfx hfy hfz⟩, ?_⟩
    refine ⟨⟨(fun _ _ _ hk h => (let ⟨r, e, f⟩ := h; ⟨r, e, FI.keep f hk⟩)), sd4_s5 rfl rfl rfl (by decide) rfl rfl⟩, ?_⟩
    refine ⟨⟨(fun _ _ _ hk h => FI.keep h hk), sd4_s6 rfl rfl rfl (by decide) rfl rfl⟩, ?_⟩
    refine ⟨⟨(fun _ _ _ _ h => h), sd4_s7 rfl rfl rfl (by decide) rfl rfl⟩, ?_⟩
    refine ⟨⟨(CF.keep _), rfl, rfl, box45 rfl rfl⟩, ?_⟩
    refine ⟨⟨rfl, rfl, by decide, put_45 rfl rfl (j := 6) (by decide) rfl rfl (by decide) (fun w v h => h)⟩, ?_⟩
    refine ⟨⟨(fun _ _ _ _ h => h), sd4_s10 rfl rfl rfl (by decide) rfl rfl⟩, ?_⟩
    exact trivial
   case hB => exact ⟨rfl, rfl⟩
   case hdone =>
    intro G vs W9 hnd hv hbq
    obtain ⟨v0, vs1, rfl, q0, hv1⟩ := hv.sure_
    obtain ⟨v1, vs2, rfl, rfl, hv2⟩ := hv1.sure_
    obtain ⟨v2, vs3, rfl, rfl, hv3⟩ := hv2.sure_
    obtain ⟨v3, vs4, rfl, q3, hv4⟩ := hv3.sure_
    obtain ⟨v4, vs5, rfl, q4, hv5⟩ := hv4.sure_
    obtain ⟨v5, vs6, rfl, q5, hv6⟩ := hv5.sure_
    obtain ⟨v6, vs7, rfl, q6, hv7⟩ := hv6.sure_
    obtain ⟨v7, vs8, rfl, rfl, hv8⟩ := hv7.sure_
    obtain ⟨vs9, rfl, ge9, ⟨cs9, cb9, cc9⟩, hv9⟩ := hv8.box_
    have hv10 := hv9.put_
    obtain ⟨v10, vs11, rfl, rfl, hv11⟩ := hv10.sure_
    obtain rfl := hv11.nil_
    clear hv hv1 hv2 hv3 hv4 hv5 hv6 hv7 hv8 hv9 hv10 hv11
    obtain ⟨g9, hg9⟩ : ∃ g, G 9 = g := ⟨_, rfl⟩
    rw [hg9] at cb9
    have HI9 := Aside0.mk (HI.out.below hbq)
    have HX9 := Aside0.mk (BF.mk cb9 cc9)
    simp only [laid, overlay, List.zipWith_cons_cons, List.zipWith_nil_left, List.zipWith_nil_right, List.foldl_cons, List.foldl_nil, List.setIfInBounds_toArray, List.set_cons_zero, List.set_cons_succ, hg9]
    clear hnd hbq ge9 hg9 cb9 cc9 HI
    clear k7_0 k7_1 k8_0 k8_1 ku_0 ku_1 ku_2 ku_3 kuF hb0 hb1 hfx hfy hfz l0 l1 hUb hVb
    go_wp2
    have k7_0 : W9.cell? ⟨g7, 0, none⟩ = some (.int .i64 lo.f0) := blk_cell HI9.out.h7 0
    have k7_1 : W9.cell? ⟨g7, 1, none⟩ = some (.int .i64 lo.f1) := blk_cell HI9.out.h7 1
    have k8_0 : W9.cell? ⟨g8, 0, none⟩ = some (.int .i64 hi.f0) := blk_cell HI9.out.h8 0
    have k8_1 : W9.cell? ⟨g8, 1, none⟩ = some (.int .i64 hi.f1) := blk_cell HI9.out.h8 1
    have ku_0 : W9.cell? ⟨gt, 0, none⟩ = some (.bool su) := blk_cell HI9.out.hu 0
    have ku_1 : W9.cell? ⟨gt, 1, none⟩ = some (.slice Au nu cu) := blk_cell HI9.out.hu 1
    have ku_2 : W9.cell? ⟨gt, 2, none⟩ = some (.bool tu) := blk_cell HI9.out.hu 2
    have ku_3 : W9.cell? ⟨gt, 3, none⟩ = some (.slice Bu mu du) := blk_cell HI9.out.hu 3
    have kuF := HI9.out.fu
    obtain ⟨⟨⟨l0, l1, _, _⟩, _⟩, hUb, hVb⟩ := HBD.out
    have hb0 : -9223372036854775808 ≤ lo.f0 := by omega
    have hb1 : lo.f0 ≤ 9223372036854775807 := by omega
    have hfx : Fit U := Fit.small (by omega) (by omega)
    have hfy : Fit lo.f0 := Fit.small (by omega) (by omega)
    have hfz : Fit (U - lo.f0) := Fit.small (by omega) (by omega)
    refine (wpIn_wide (n := 5)).1 ?_
    refine regionIn_box2 (r := none) (n := 5) (by kernel_rfl) (by kernel_rfl) (by kernel_rfl) IntKeep (fun _ _ h => IntKeep.below h) (fun base => base[4]? = some (.pointer (some ⟨gt, 0, none⟩)) ∧ base[7]? = some (.pointer (some ⟨g7, 0, none⟩))) [.sure 37 (fun w v => FI w v U), .sure 38 (fun _ v => v = .pointer (some ⟨g7, 0, none⟩)), .sure 39 (fun _ v => v = .int .i64 lo.f0), .sure 40 (fun w v => FI w v lo.f0), .sure 41 (fun w v => ∃ r, v = .tuple #[r, .int .i64 0] ∧ FI w r (U - lo.f0)), .sure 36 (fun w v => ∃ r, v = .tuple #[r, .int .i64 0] ∧ FI w r (U - lo.f0)), .sure 42 (fun w v => FI w v (U - lo.f0)), .sure 43 (fun _ v => v = .int .i64 0), .box 11 45 zo45 (CF (U - lo.f0)), .put 8 11 45 zo45 (CF (U - lo.f0)), .sure 12 (fun _ v => v = .int .i64 0)] [37, 38, 39, 40, 41, 36, 42, 43, 11, 12] rfl ?hB (by kernel_rfl) (by kernel_rfl) (by decide) (by kernel_rfl) ?hks ?hdone
    case hks =>
     refine ⟨⟨(fun _ _ _ hk h => FI.keep h hk), sd5_s0 rfl rfl rfl (nin (by rfl)) (fun _ h => h.1) ku_0 ku_1 ku_2 ku_3 kuF⟩, ?_⟩
     refine ⟨⟨(fun _ _ _ _ h => h), sd5_s1 rfl rfl rfl (nin (by rfl)) (fun _ h => h.2)⟩, ?_⟩
     refine ⟨⟨(fun _ _ _ _ h => h), sd5_s2 rfl rfl rfl (by decide) rfl rfl k7_0⟩, ?_⟩
     refine ⟨⟨(fun _ _ _ hk h => FI.keep h hk), sd5_s3 rfl rfl rfl (by decide) rfl rfl hb0 hb1⟩, ?_⟩
     refine ⟨⟨(fun _ _ _ hk h => (let ⟨r, e, f⟩ := h; ⟨r, e, FI.keep f hk⟩)), sd5_s4 rfl rfl rfl (by decide) rfl rfl (by decide) rfl rfl hfx hfy hfz⟩, ?_⟩
     refine ⟨⟨(fun _ _ _ hk h => (let ⟨r, e, f⟩ := h; ⟨r, e, FI.keep f hk⟩)), sd5_s5 rfl rfl rfl (by decide) rfl rfl⟩, ?_⟩
     refine ⟨⟨(fun _ _ _ hk h => FI.keep h hk), sd5_s6 rfl rfl rfl (by decide) rfl rfl⟩, ?_⟩
     refine ⟨⟨(fun _ _ _ _ h => h), sd5_s7 rfl rfl rfl (by decide) rfl rfl⟩, ?_⟩
     refine ⟨⟨(CF.keep _), rfl, rfl, box45 rfl rfl⟩, ?_⟩
     refine ⟨⟨rfl, rfl, by decide, put_45 rfl rfl (j := 6) (by decide) rfl rfl (by decide) (fun w v h => h)⟩, ?_⟩
     refine ⟨⟨(fun _ _ _ _ h => h), sd5_s10 rfl rfl rfl (by decide) rfl rfl⟩, ?_⟩
     exact trivial
    case hB => exact ⟨rfl, rfl⟩
    case hdone =>
     intro G vs W11 hnd hv hbq
     obtain ⟨v0, vs1, rfl, q0, hv1⟩ := hv.sure_
     obtain ⟨v1, vs2, rfl, rfl, hv2⟩ := hv1.sure_
     obtain ⟨v2, vs3, rfl, rfl, hv3⟩ := hv2.sure_
     obtain ⟨v3, vs4, rfl, q3, hv4⟩ := hv3.sure_
     obtain ⟨v4, vs5, rfl, q4, hv5⟩ := hv4.sure_
     obtain ⟨v5, vs6, rfl, q5, hv6⟩ := hv5.sure_
     obtain ⟨v6, vs7, rfl, q6, hv7⟩ := hv6.sure_
     obtain ⟨v7, vs8, rfl, rfl, hv8⟩ := hv7.sure_
     obtain ⟨vs9, rfl, ge11, ⟨cs11, cb11, cc11⟩, hv9⟩ := hv8.box_
     have hv10 := hv9.put_
     obtain ⟨v10, vs11, rfl, rfl, hv11⟩ := hv10.sure_
     obtain rfl := hv11.nil_
     clear hv hv1 hv2 hv3 hv4 hv5 hv6 hv7 hv8 hv9 hv10 hv11
     obtain ⟨g11, hg11⟩ : ∃ g, G 11 = g := ⟨_, rfl⟩
     rw [hg11] at cb11
     have HI11 := Aside0.mk (HI9.out.below hbq)
     have HX11 := Aside0.mk (BF.mk cb11 cc11)
     simp only [laid, overlay, List.zipWith_cons_cons, List.zipWith_nil_left, List.zipWith_nil_right, List.foldl_cons, List.foldl_nil, List.setIfInBounds_toArray, List.set_cons_zero, List.set_cons_succ, hg11]
     have HX9b := Aside0.mk (HX9.out.below hbq)
     clear hnd hbq ge11 hg11 cb11 cc11 HX9 HI9
     clear k7_0 k7_1 k8_0 k8_1 ku_0 ku_1 ku_2 ku_3 kuF hb0 hb1 hfx hfy hfz l0 l1 hUb hVb
     obtain ⟨s9, A9, n9, c9, t9, B9, m9, d9, rfl⟩ := HX9b.out.parts
     go_wp2
     have k7_0 : W11.cell? ⟨g7, 0, none⟩ = some (.int .i64 lo.f0) := blk_cell HI11.out.h7 0
     have k7_1 : W11.cell? ⟨g7, 1, none⟩ = some (.int .i64 lo.f1) := blk_cell HI11.out.h7 1
     have k8_0 : W11.cell? ⟨g8, 0, none⟩ = some (.int .i64 hi.f0) := blk_cell HI11.out.h8 0
     have k8_1 : W11.cell? ⟨g8, 1, none⟩ = some (.int .i64 hi.f1) := blk_cell HI11.out.h8 1
     have ku_0 : W11.cell? ⟨g9, 0, none⟩ = some (.bool s9) := blk_cell HX9b.out.blk 0
     have ku_1 : W11.cell? ⟨g9, 1, none⟩ = some (.slice A9 n9 c9) := blk_cell HX9b.out.blk 1
     have ku_2 : W11.cell? ⟨g9, 2, none⟩ = some (.bool t9) := blk_cell HX9b.out.blk 2
     have ku_3 : W11.cell? ⟨g9, 3, none⟩ = some (.slice B9 m9 d9) := blk_cell HX9b.out.blk 3
     have kuF := HX9b.out.fi
     obtain ⟨⟨⟨l0, l1, l2, l3⟩, r0, r1, r2, r3⟩, hUb, hVb⟩ := HBD.out
     have hp := prod_mid (x := V - lo.f1) (y := hi.f0 - lo.f0) (by omega) (by omega) (by omega) (by omega)
     have hyy : hi.f0 - lo.f0 = wrap64 (hi.f0 - lo.f0) := (Go.IntWalk.wrap64_in _ (by omega)).symm
     have hb0 : -9223372036854775808 ≤ hi.f0 - lo.f0 := by omega
     have hb1 : hi.f0 - lo.f0 ≤ 9223372036854775807 := by omega
     have hfx : Fit (V - lo.f1) := Fit.small (by omega) (by omega)
     have hfy : Fit (hi.f0 - lo.f0) := Fit.small (by omega) (by omega)
     have hfz : Fit ((V - lo.f1) * (hi.f0 - lo.f0)) := Fit.small (by omega) (by omega)
     refine (wpIn_wide (n := 5)).1 ?_
     refine regionIn_box2 (r := none) (n := 5) (by kernel_rfl) (by kernel_rfl) (by kernel_rfl) IntKeep (fun _ _ h => IntKeep.below h) (fun base => base[9]? = some (.pointer (some ⟨g9, 0, none⟩)) ∧ base[7]? = some (.pointer (some ⟨g7, 0, none⟩)) ∧ base[8]? = some (.pointer (some ⟨g8, 0, none⟩))) [.sure 45 (fun w v => FI w v (V - lo.f1)), .sure 46 (fun _ v => v = .pointer (some ⟨g8, 0, none⟩)), .sure 47 (fun _ v => v = .int .i64 hi.f0), .sure 48 (fun _ v => v = .pointer (some ⟨g7, 0, none⟩)), .sure 49 (fun _ v => v = .int .i64 lo.f0), .sure 50 (fun _ v => v = .int .i64 (hi.f0 - lo.f0)), .sure 51 (fun w v => FI w v (hi.f0 - lo.f0)), .sure 52 (fun w v => ∃ r, v = .tuple #[r, .int .i64 0] ∧ FI w r ((V - lo.f1) * (hi.f0 - lo.f0))), .sure 44 (fun w v => ∃ r, v = .tuple #[r, .int .i64 0] ∧ FI w r ((V - lo.f1) * (hi.f0 - lo.f0))), .sure 53 (fun w v => FI w v ((V - lo.f1) * (hi.f0 - lo.f0))), .sure 54 (fun _ v => v = .int .i64 0), .box 13 45 zo45 (CF ((V - lo.f1) * (hi.f0 - lo.f0))), .put 11 13 45 zo45 (CF ((V - lo.f1) * (hi.f0 - lo.f0))), .sure 14 (fun _ v => v = .int .i64 0)] [45, 46, 47, 48, 49, 50, 51, 52, 44, 53, 54, 13, 14] rfl ?hB (by kernel_rfl) (by kernel_rfl) (by decide) (by kernel_rfl) ?hks ?hdone
     case hks =>
      refine ⟨⟨(fun _ _ _ hk h => FI.keep h hk), sd6_s0 rfl rfl rfl (nin (by rfl)) (fun _ h => h.1) ku_0 ku_1 ku_2 ku_3 kuF⟩, ?_⟩
      refine ⟨⟨(fun _ _ _ _ h => h), sd6_s1 rfl rfl rfl (nin (by rfl)) (fun _ h => h.2.2)⟩, ?_⟩
      refine ⟨⟨(fun _ _ _ _ h => h), sd6_s2 rfl rfl rfl (by decide) rfl rfl k8_0⟩, ?_⟩
      refine ⟨⟨(fun _ _ _ _ h => h), sd6_s3 rfl rfl rfl (nin (by rfl)) (fun _ h => h.2.1)⟩, ?_⟩
      refine ⟨⟨(fun _ _ _ _ h => h), sd6_s4 rfl rfl rfl (by decide) rfl rfl k7_0⟩, ?_⟩
      refine ⟨⟨(fun _ _ _ _ h => h), sd6_s5 rfl rfl rfl (by decide) rfl rfl (by decide) rfl rfl hyy⟩, ?_⟩
      refine ⟨⟨(fun _ _ _ hk h => FI.keep h hk), sd6_s6 rfl rfl rfl (by decide) rfl rfl hb0 hb1⟩, ?_⟩
      refine ⟨⟨(fun _ _ _ hk h => (let ⟨r, e, f⟩ := h; ⟨r, e, FI.keep f hk⟩)), sd6_s7 rfl rfl rfl (by decide) rfl rfl (by decide) rfl rfl hfx hfy hfz⟩, ?_⟩
      refine ⟨⟨(fun _ _ _ hk h => (let ⟨r, e, f⟩ := h; ⟨r, e, FI.keep f hk⟩)), sd6_s8 rfl rfl rfl (by decide) rfl rfl⟩, ?_⟩
      refine ⟨⟨(fun _ _ _ hk h => FI.keep h hk), sd6_s9 rfl rfl rfl (by decide) rfl rfl⟩, ?_⟩
      refine ⟨⟨(fun _ _ _ _ h => h), sd6_s10 rfl rfl rfl (by decide) rfl rfl⟩, ?_⟩
      refine ⟨⟨(CF.keep _), rfl, rfl, box45 rfl rfl⟩, ?_⟩
      refine ⟨⟨rfl, rfl, by decide, put_45 rfl rfl (j := 9) (by decide) rfl rfl (by decide) (fun w v h => h)⟩, ?_⟩
      refine ⟨⟨(fun _ _ _ _ h => h), sd6_s13 rfl rfl rfl (by decide) rfl rfl⟩, ?_⟩
      exact trivial
     case hB => exact ⟨rfl, rfl, rfl⟩
     case hdone =>
      intro G vs W13 hnd hv hbq
      obtain ⟨v0, vs1, rfl, q0, hv1⟩ := hv.sure_
      obtain ⟨v1, vs2, rfl, rfl, hv2⟩ := hv1.sure_
      obtain ⟨v2, vs3, rfl, rfl, hv3⟩ := hv2.sure_
      obtain ⟨v3, vs4, rfl, rfl, hv4⟩ := hv3.sure_
      obtain ⟨v4, vs5, rfl, rfl, hv5⟩ := hv4.sure_
      obtain ⟨v5, vs6, rfl, rfl, hv6⟩ := hv5.sure_
      obtain ⟨v6, vs7, rfl, q6, hv7⟩ := hv6.sure_
      obtain ⟨v7, vs8, rfl, q7, hv8⟩ := hv7.sure_
      obtain ⟨v8, vs9, rfl, q8, hv9⟩ := hv8.sure_
      obtain ⟨v9, vs10, rfl, q9, hv10⟩ := hv9.sure_
      obtain ⟨v10, vs11, rfl, rfl, hv11⟩ := hv10.sure_
      obtain ⟨vs12, rfl, ge13, ⟨cs13, cb13, cc13⟩, hv12⟩ := hv11.box_
      have hv13 := hv12.put_
      obtain ⟨v13, vs14, rfl, rfl, hv14⟩ := hv13.sure_
      obtain rfl := hv14.nil_
      clear hv hv1 hv2 hv3 hv4 hv5 hv6 hv7 hv8 hv9 hv10 hv11 hv12 hv13 hv14
      obtain ⟨g13, hg13⟩ : ∃ g, G 13 = g := ⟨_, rfl⟩
      rw [hg13] at cb13
      have HI13 := Aside0.mk (HI11.out.below hbq)
      have HX13 := Aside0.mk (BF.mk cb13 cc13)
      simp only [laid, overlay, List.zipWith_cons_cons, List.zipWith_nil_left, List.zipWith_nil_right, List.foldl_cons, List.foldl_nil, List.setIfInBounds_toArray, List.set_cons_zero, List.set_cons_succ, hg13]
      have HX11b := Aside0.mk (HX11.out.below hbq)
      clear hnd hbq ge13 hg13 cb13 cc13 HX11 HX9b HI11
      clear k7_0 k7_1 k8_0 k8_1 ku_0 ku_1 ku_2 ku_3 kuF hb0 hb1 hfx hfy hfz l0 l1 l2 l3 r0 r1 r2 r3 hp hyy hUb hVb
      obtain ⟨s1, A1, n1, c1, t1, B1, m1, d1, rfl⟩ := HX11b.out.parts
      go_wp2
      have k7_0 : W13.cell? ⟨g7, 0, none⟩ = some (.int .i64 lo.f0) := blk_cell HI13.out.h7 0
      have k7_1 : W13.cell? ⟨g7, 1, none⟩ = some (.int .i64 lo.f1) := blk_cell HI13.out.h7 1
      have k8_0 : W13.cell? ⟨g8, 0, none⟩ = some (.int .i64 hi.f0) := blk_cell HI13.out.h8 0
      have k8_1 : W13.cell? ⟨g8, 1, none⟩ = some (.int .i64 hi.f1) := blk_cell HI13.out.h8 1
      have ku_0 : W13.cell? ⟨g11, 0, none⟩ = some (.bool s1) := blk_cell HX11b.out.blk 0
      have ku_1 : W13.cell? ⟨g11, 1, none⟩ = some (.slice A1 n1 c1) := blk_cell HX11b.out.blk 1
      have ku_2 : W13.cell? ⟨g11, 2, none⟩ = some (.bool t1) := blk_cell HX11b.out.blk 2
      have ku_3 : W13.cell? ⟨g11, 3, none⟩ = some (.slice B1 m1 d1) := blk_cell HX11b.out.blk 3
      have kuF := HX11b.out.fi
      obtain ⟨⟨⟨l0, l1, l2, l3⟩, r0, r1, r2, r3⟩, hUb, hVb⟩ := HBD.out
      have hp := prod_mid (x := U - lo.f0) (y := hi.f1 - lo.f1) (by omega) (by omega) (by omega) (by omega)
      have hyy : hi.f1 - lo.f1 = wrap64 (hi.f1 - lo.f1) := (Go.IntWalk.wrap64_in _ (by omega)).symm
      have hb0 : -9223372036854775808 ≤ hi.f1 - lo.f1 := by omega
      have hb1 : hi.f1 - lo.f1 ≤ 9223372036854775807 := by omega
      have hfx : Fit (U - lo.f0) := Fit.small (by omega) (by omega)
      have hfy : Fit (hi.f1 - lo.f1) := Fit.small (by omega) (by omega)
      have hfz : Fit ((U - lo.f0) * (hi.f1 - lo.f1)) := Fit.small (by omega) (by omega)
      refine (wpIn_wide (n := 5)).1 ?_
      refine regionIn_box2 (r := none) (n := 5) (by kernel_rfl) (by kernel_rfl) (by kernel_rfl) IntKeep (fun _ _ h => IntKeep.below h) (fun base => base[11]? = some (.pointer (some ⟨g11, 0, none⟩)) ∧ base[7]? = some (.pointer (some ⟨g7, 0, none⟩)) ∧ base[8]? = some (.pointer (some ⟨g8, 0, none⟩))) [.sure 56 (fun w v => FI w v (U - lo.f0)), .sure 57 (fun _ v => v = .pointer (some ⟨g8, 1, none⟩)), .sure 58 (fun _ v => v = .int .i64 hi.f1), .sure 59 (fun _ v => v = .pointer (some ⟨g7, 1, none⟩)), .sure 60 (fun _ v => v = .int .i64 lo.f1), .sure 61 (fun _ v => v = .int .i64 (hi.f1 - lo.f1)), .sure 62 (fun w v => FI w v (hi.f1 - lo.f1)), .sure 63 (fun w v => ∃ r, v = .tuple #[r, .int .i64 0] ∧ FI w r ((U - lo.f0) * (hi.f1 - lo.f1))), .sure 55 (fun w v => ∃ r, v = .tuple #[r, .int .i64 0] ∧ FI w r ((U - lo.f0) * (hi.f1 - lo.f1))), .sure 64 (fun w v => FI w v ((U - lo.f0) * (hi.f1 - lo.f1))), .sure 65 (fun _ v => v = .int .i64 0), .box 15 45 zo45 (CF ((U - lo.f0) * (hi.f1 - lo.f1))), .put 11 15 45 zo45 (CF ((U - lo.f0) * (hi.f1 - lo.f1))), .sure 16 (fun _ v => v = .int .i64 0)] [56, 57, 58, 59, 60, 61, 62, 63, 55, 64, 65, 15, 16] rfl ?hB (by kernel_rfl) (by kernel_rfl) (by decide) (by kernel_rfl) ?hks ?hdone
      case hks =>
       refine ⟨⟨(fun _ _ _ hk h => FI.keep h hk), sd7_s0 rfl rfl rfl (nin (by rfl)) (fun _ h => h.1) ku_0 ku_1 ku_2 ku_3 kuF⟩, ?_⟩
       refine ⟨⟨(fun _ _ _ _ h => h), sd7_s1 rfl rfl rfl (nin (by rfl)) (fun _ h => h.2.2)⟩, ?_⟩
       refine ⟨⟨(fun _ _ _ _ h => h), sd7_s2 rfl rfl rfl (by decide) rfl rfl k8_1⟩, ?_⟩
       refine ⟨⟨(fun _ _ _ _ h => h), sd7_s3 rfl rfl rfl (nin (by rfl)) (fun _ h => h.2.1)⟩, ?_⟩
       refine ⟨⟨(fun _ _ _ _ h => h), sd7_s4 rfl rfl rfl (by decide) rfl rfl k7_1⟩, ?_⟩
       refine ⟨⟨(fun _ _ _ _ h => h), sd7_s5 rfl rfl rfl (by decide) rfl rfl (by decide) rfl rfl hyy⟩, ?_⟩
       refine ⟨⟨(fun _ _ _ hk h => FI.keep h hk), sd7_s6 rfl rfl rfl (by decide) rfl rfl hb0 hb1⟩, ?_⟩
       refine ⟨⟨(fun _ _ _ hk h => (let ⟨r, e, f⟩ := h; ⟨r, e, FI.keep f hk⟩)), sd7_s7 rfl rfl rfl (by decide) rfl rfl (by decide) rfl rfl hfx hfy hfz⟩, ?_⟩
       refine ⟨⟨(fun _ _ _ hk h => (let ⟨r, e, f⟩ := h; ⟨r, e, FI.keep f hk⟩)), sd7_s8 rfl rfl rfl (by decide) rfl rfl⟩, ?_⟩
       refine ⟨⟨(fun _ _ _ hk h => FI.keep h hk), sd7_s9 rfl rfl rfl (by decide) rfl rfl⟩, ?_⟩
       refine ⟨⟨(fun _ _ _ _ h => h), sd7_s10 rfl rfl rfl (by decide) rfl rfl⟩, ?_⟩
       refine ⟨⟨(CF.keep _), rfl, rfl, box45 rfl rfl⟩, ?_⟩
       refine ⟨⟨rfl, rfl, by decide, put_45 rfl rfl (j := 9) (by decide) rfl rfl (by decide) (fun w v h => h)⟩, ?_⟩
       refine ⟨⟨(fun _ _ _ _ h => h), sd7_s13 rfl rfl rfl (by decide) rfl rfl⟩, ?_⟩
       exact trivial
      case hB => exact ⟨rfl, rfl, rfl⟩
      case hdone =>
       intro G vs W15 hnd hv hbq
       obtain ⟨v0, vs1, rfl, q0, hv1⟩ := hv.sure_
       obtain ⟨v1, vs2, rfl, rfl, hv2⟩ := hv1.sure_
       obtain ⟨v2, vs3, rfl, rfl, hv3⟩ := hv2.sure_
       obtain ⟨v3, vs4, rfl, rfl, hv4⟩ := hv3.sure_
       obtain ⟨v4, vs5, rfl, rfl, hv5⟩ := hv4.sure_
       obtain ⟨v5, vs6, rfl, rfl, hv6⟩ := hv5.sure_
       obtain ⟨v6, vs7, rfl, q6, hv7⟩ := hv6.sure_
       obtain ⟨v7, vs8, rfl, q7, hv8⟩ := hv7.sure_
       obtain ⟨v8, vs9, rfl, q8, hv9⟩ := hv8.sure_
       obtain ⟨v9, vs10, rfl, q9, hv10⟩ := hv9.sure_
       obtain ⟨v10, vs11, rfl, rfl, hv11⟩ := hv10.sure_
       obtain ⟨vs12, rfl, ge15, ⟨cs15, cb15, cc15⟩, hv12⟩ := hv11.box_
       have hv13 := hv12.put_
       obtain ⟨v13, vs14, rfl, rfl, hv14⟩ := hv13.sure_
       obtain rfl := hv14.nil_
       clear hv hv1 hv2 hv3 hv4 hv5 hv6 hv7 hv8 hv9 hv10 hv11 hv12 hv13 hv14
       obtain ⟨g15, hg15⟩ : ∃ g, G 15 = g := ⟨_, rfl⟩
       rw [hg15] at cb15
       have HI15 := Aside0.mk (HI13.out.below hbq)
       have HX15 := Aside0.mk (BF.mk cb15 cc15)
       simp only [laid, overlay, List.zipWith_cons_cons, List.zipWith_nil_left, List.zipWith_nil_right, List.foldl_cons, List.foldl_nil, List.setIfInBounds_toArray, List.set_cons_zero, List.set_cons_succ, hg15]
       have HX13b := Aside0.mk (HX13.out.below hbq)
       clear hnd hbq ge15 hg15 cb15 cc15 HX13 HX11b HI13
       clear k7_0 k7_1 k8_0 k8_1 ku_0 ku_1 ku_2 ku_3 kuF hb0 hb1 hfx hfy hfz l0 l1 l2 l3 r0 r1 r2 r3 hUb hVb hyy hp
       obtain ⟨s3, A3, n3, c3, t3, B3, m3, d3, rfl⟩ := HX13b.out.parts
       obtain ⟨s5, A5, n5, c5, t5, B5, m5, d5, rfl⟩ := HX15.out.parts
       have kp_0 : W15.cell? ⟨g13, 0, none⟩ = some (.bool s3) := blk_cell HX13b.out.blk 0
       have kp_1 : W15.cell? ⟨g13, 1, none⟩ = some (.slice A3 n3 c3) := blk_cell HX13b.out.blk 1
       have kp_2 : W15.cell? ⟨g13, 2, none⟩ = some (.bool t3) := blk_cell HX13b.out.blk 2
       have kp_3 : W15.cell? ⟨g13, 3, none⟩ = some (.slice B3 m3 d3) := blk_cell HX13b.out.blk 3
       have kq_0 : W15.cell? ⟨g15, 0, none⟩ = some (.bool s5) := blk_cell HX15.out.blk 0
       have kq_1 : W15.cell? ⟨g15, 1, none⟩ = some (.slice A5 n5 c5) := blk_cell HX15.out.blk 1
       have kq_2 : W15.cell? ⟨g15, 2, none⟩ = some (.bool t5) := blk_cell HX15.out.blk 2
       have kq_3 : W15.cell? ⟨g15, 3, none⟩ = some (.slice B5 m5 d5) := blk_cell HX15.out.blk 3
       have HFF := Aside0.mk (show Fit ((V - lo.f1) * (hi.f0 - lo.f0)) ∧ Fit ((U - lo.f0) * (hi.f1 - lo.f1)) from by
        obtain ⟨⟨⟨l0, l1, l2, l3⟩, r0, r1, r2, r3⟩, hUb, hVb⟩ := HBD.out
        have hp := prod_mid (x := U - lo.f0) (y := hi.f1 - lo.f1) (by omega) (by omega) (by omega) (by omega)
        have hq := prod_mid (x := V - lo.f1) (y := hi.f0 - lo.f0) (by omega) (by omega) (by omega) (by omega)
        exact ⟨Fit.small (by omega) (by omega), Fit.small (by omega) (by omega)⟩)
       go_wp2_with (first
        | (go_at_call 51; (with_reducible refine (fcmp_calls _ _ ((V - lo.f1) * (hi.f0 - lo.f0)) ((U - lo.f0) * (hi.f1 - lo.f1)) W15 HX13b.out.fi HX15.out.fi HFF.out.1 HFF.out.2).mono ?_); rintro e w6 ⟨rfl, hb6⟩; have HB6 := Aside0.mk (below_step HI15.out.hb hb6); clear hb6)
        | fail)
       go_ret
       exact ⟨by rw [HP.out]; rfl, HB6.out⟩
end Go.Proofs.Ytjmkccabpnigiaa.P
