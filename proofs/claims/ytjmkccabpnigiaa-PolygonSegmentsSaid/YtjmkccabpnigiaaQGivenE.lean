import Derived.Test.YtjmkccabpnigiaaQPlainA
import Derived.Test.YtjmkccabpnigiaaQPx3
import Derived.Laws.BitsLemmas
namespace Go.Proofs.Ytjmkccabpnigiaa.P
open Go.RowKit Go.Proofs.YtjmkccabpnigiaaW.PrintWords Go.Proofs.YtjmkccabpnigiaaW.PrintLast Go.Proofs.YtjmkccabpnigiaaW.PrintMore
attribute [local go_sem] max2_int min2_int max_two min_two max_three min_three max_four min_four
set_option linter.unusedVariables false
set_option linter.unusedSimpArgs false
/-- A row of digits that is read. -/
def MgC (w : World) (A : Option Addr) (n c : Nat) (ds : List Int) : Prop := (Kd.int .u32).C w A n ds ∧ n = ds.length ∧ n ≤ c ∧ Dg ds
theorem MgC.below {w w1 : World} {A : Option Addr} {n c : Nat} {ds : List Int} (h : MgC w A n c ds) (hb : Below w.heap.size w w1) : MgC w1 A n c ds := ⟨Kd.C_below h.1 hb, h.2⟩
theorem rd_headD (xs : List Int) (i : Nat) : rd xs (i : Int) = (xs.drop i).headD 0 := by
 simp [rd, List.headD_eq_head?_getD, List.head?_drop, List.getD_eq_getElem?_getD]
theorem drop_tail (xs : List Int) (i : Nat) : (xs.drop i).tail = xs.drop (i + 1) := by rw [List.tail_drop]
theorem headD_out {xs : List Int} {i : Nat} (h : xs.length ≤ i) : (xs.drop i).headD 0 = 0 := by rw [List.drop_eq_nil_of_le h]; rfl
theorem set_app (d : List Int) (m : Nat) (x : Int) (i : Nat) (h : d.length = i) : (d ++ List.replicate (m + 1) 0).set i x = (d ++ [x]) ++ List.replicate m 0 := by
 subst h
 rw [List.set_append_right _ _ (Nat.le_refl _), Nat.sub_self, List.replicate_succ, List.set_cons_zero, List.append_assoc]
 rfl
theorem carrier_calls (w : World) : Calls Try.prog 78 #[] w fun e w' => e = .returned (.func (.func 86) #[] #[.pointer (some ⟨w.heap.size, 0, none⟩)]) ∧ w' = w.alloc (.cells #[.int .u64 0] 98) := by
 go_enter Try.func78, Try.ntmps78
 go_wp2
 go_ret
 exact ⟨rfl, rfl⟩
set_option maxHeartbeats 1000000 in
theorem carrier1_calls (g : Nat) (c v : Int) (w : World) (hc : 0 ≤ c) (hv : 0 ≤ v) (hs : c + v < 18446744073709551616) (h : w.heap[g]? = some (.cells #[.int .u64 c] 98 (0, 0))) :
    Calls Try.prog 86 #[.int .u64 v, .pointer (some ⟨g, 0, none⟩)] w fun e w' => e = .returned (.int .u32 ((c + v) % 4294967296)) ∧ w' = (w.setCell ⟨g, 0, none⟩ (.int .u64 (c + v))).setCell ⟨g, 0, none⟩ (.int .u64 ((c + v) / 4294967296)) := by
 have c0 : w.cell? ⟨g, 0, none⟩ = some (.int .u64 c) := blk_cell h 0
 have f0 := blk_frozen h 0
 have hw : IntKind.u64.wrap (c + v) = c + v := IntWalk.u64_in _ (by omega)
 go_enter Try.func86, Try.ntmps86
 go_wp2
 go_ret
 exact ⟨rfl, rfl⟩
end Go.Proofs.Ytjmkccabpnigiaa.P
namespace Go.Proofs.Ytjmkccabpnigiaa.P
open Go.RowKit Go.Proofs.YtjmkccabpnigiaaW.PrintWords Go.Proofs.YtjmkccabpnigiaaW.PrintLast Go.Proofs.YtjmkccabpnigiaaW.PrintMore
attribute [local go_sem] max2_int min2_int max_two min_two max_three min_three max_four min_four
set_option linter.unusedVariables false
set_option linter.unusedSimpArgs false
/-- What a loop of sum has done. -/
def SumI (xs ys : List Int) (i : Nat) (done : List Int) (c : Int) : Prop :=
 i ≤ xs.length + 1 ∧ done.length = i ∧ 0 ≤ c ∧ c ≤ 1 ∧ done ++ sumGo (xs.length + 1 - i) (xs.drop i) (ys.drop i) c = sumGo (xs.length + 1) xs ys 0
theorem SumI.step {xs ys : List Int} {i : Nat} {done : List Int} {c : Int} (h : SumI xs ys i done c) (hx : Dg xs) (hy : Dg ys) (hi : i < xs.length + 1) (hm : ¬ (i < xs.length + 1 ∧ c + ((xs.drop i).headD 0 + (ys.drop i).headD 0) ≥ 8589934592)) :
    SumI xs ys (i + 1) (done ++ [(c + ((xs.drop i).headD 0 + (ys.drop i).headD 0)) % 4294967296]) ((c + ((xs.drop i).headD 0 + (ys.drop i).headD 0)) / 4294967296) := by
 obtain ⟨h1, h2, h3, h4, h5⟩ := h
 have e1 := (hx.drop i).headD
 have e2 := (hy.drop i).headD
 refine ⟨by omega, by simp [h2], by omega, by omega, ?_⟩
 rw [← h5, List.append_assoc, show xs.length + 1 - i = (xs.length + 1 - (i + 1)) + 1 from by omega, sumGo, drop_tail, drop_tail]
 rfl
set_option maxHeartbeats 4000000 in
set_option maxRecDepth 100000 in
theorem sum_calls (A0 : Option Addr) (n0 c0 : Nat) (a : List Int) (A1 : Option Addr) (n1 c1 : Nat) (b : List Int) (w : World) (ha : MgC w A0 n0 c0 a) (hb : MgC w A1 n1 c1 b) (hla : a.length ≤ 100000) (hlb : b.length ≤ 100000) :
    Calls Try.prog 69 #[.slice A0 n0 c0, .slice A1 n1 c1] w fun e w' => ∃ (v : Value) (r : List Int), e = .returned v ∧ (Kd.int .u32).R 100 w' w.heap.size (fun _ => True) v r ∧ Dg r ∧ val r = val a + val b ∧ r.length ≤ 100001 ∧ Below w.heap.size w w' := by
 have HA := Aside0.mk ha
 have HB := Aside0.mk hb
 obtain ⟨_, rfl, _, _⟩ := ha
 obtain ⟨_, rfl, _, _⟩ := hb
 have HL := Aside0.mk (show a.length ≤ 100000 ∧ b.length ≤ 100000 from ⟨hla, hlb⟩)
 clear hla hlb
 go_enter Try.func69, Try.ntmps69
 go_upto_if 13 with fail
 go_cut [0, 1] (fun s0 s1 wx => ∃ (A : Option Addr) (c : Nat) (xs : List Int) (A' : Option Addr) (c' : Nat) (ys : List Int), s0 = .slice A xs.length c ∧ s1 = .slice A' ys.length c' ∧ Aside0 (wx = w ∧ MgC w A xs.length c xs ∧ MgC w A' ys.length c' ys ∧ ys.length ≤ xs.length ∧ xs.length ≤ 100000 ∧ val xs + val ys = val a + val b))
 case first =>
  by_cases hlt : (a.length : Int) < (b.length : Int)
  ·have h1 : decide ((a.length : Int) < (b.length : Int)) = true := decide_eq_true hlt
   go_wp2
   go_meet
   exact ⟨_, _, _, _, _, _, rfl, rfl, ⟨rfl, HB.out, HA.out, by omega, HL.out.2, by omega⟩⟩
  ·have h1 : decide ((a.length : Int) < (b.length : Int)) = false := decide_eq_false hlt
   go_wp2
   go_meet
   exact ⟨_, _, _, _, _, _, rfl, rfl, ⟨rfl, HA.out, HB.out, by omega, HL.out.1, rfl⟩⟩
 case rest =>
  obtain ⟨A, c, xs, A', c', ys, rfl, rfl, HX⟩ := hcut
  obtain rfl := HX.out.1
  clear HA HB HL
  have hl := HX.out.2.2.2.2.1
  have hll := HX.out.2.2.2.1
  have hw1 : wrap64 ((xs.length : Int) + 1) = (xs.length : Int) + 1 := by unfold wrap64; omega
  have h0 : decide (0 ≤ (xs.length : Int) + 1) = true := decide_eq_true (by omega)
  have hm : decide (((xs.length : Int) + 1).toNat ≤ 70368744177664) = true := decide_eq_true (by omega)
  obtain ⟨w0, rfl⟩ : ∃ w0 : World, w0 = wc := ⟨_, rfl⟩
  go_upto_region 5 with (first
   | (refine Kd.R_make (Kd.int .u32) _ 100 rfl (N := 19) rfl 41 _ _ rfl ((xs.length : Int) + 1) rfl rfl Try.underlying41 (.int .u32 0) 4 info100 rfl (by decide) (by omega) 0 (ok := fun _ => True) (okp := fun _ => True) rfl (fun _ hk => hk) trivial (by omega) (by omega) (Below.refl w0.heap.size w0) (Nat.le_refl _) ?_; intro v19 w19 hR hb19 hg19 hn19; clear hg19 hn19)
   | (go_at_call 78; refine (carrier_calls _).mono ?_; rintro e w2 ⟨rfl, rfl⟩)
   | fail)
  obtain ⟨g5, cap5, rfl, hg5, hg5l, cells5, hc5⟩ := Kd.R_form hR (by simp)
  have HR := Aside0.mk (Kd.R_alloc (Kd.R_bound hR) (.cells #[.int .u64 0] 98))
  have HBB := Aside0.mk (below_alloc hb19 (.cells #[.int .u64 0] 98))
  have HC := Aside0.mk (blk_new w19 (.cells #[.int .u64 0] 98))
  have HG := Aside0.mk (show w0.heap.size ≤ w19.heap.size ∧ w0.heap.size ≤ g5 ∧ g5 < w19.heap.size from ⟨hb19.size, hg5, hg5l⟩)
  obtain ⟨gc, hgc⟩ : ∃ gc, w19.heap.size = gc := ⟨_, rfl⟩
  rw [hgc] at HC HG HR ⊢
  have hlen : (List.replicate ((xs.length : Int) + 1).toNat (0 : Int)).length = xs.length + 1 := by simp
  rw [hlen]
  clear hb19 hg5 hg5l hc5 hR
  have hrep : List.replicate ((xs.length : Int) + 1).toNat (0 : Int) = List.replicate (xs.length + 1) 0 := by rw [show ((xs.length : Int) + 1).toNat = xs.length + 1 from by omega]
  rw [hrep, List.length_replicate] at HR
  clear hrep hlen h0 hm
  go_wp2
  go_loopg [23] (xs.length + 2) (fun kq v23 w' => ∃ (i : Nat) (done : List Int) (c : Int), v23 = .int .i64 i ∧ Aside0 (SumI xs ys i done c ∧ i + kq = xs.length + 2) ∧ Aside0 ((Kd.int .u32).R 100 w' w0.heap.size (fun k => k ≠ gc) (.slice (some ⟨g5, 0, none⟩) (xs.length + 1) cap5) (done ++ List.replicate (xs.length + 1 - i) 0)) ∧ Aside0 (w'.heap[gc]? = some (.cells #[.int .u64 c] 98 (0, 0))) ∧ Aside0 (Below w0.heap.size w0 w'))
  case atStart => exact ⟨0, [], 0, rfl, ⟨⟨by omega, rfl, by omega, by omega, rfl⟩, by omega⟩, ⟨Kd.R_mono HR.out (fun k hk => by have := hk.2.2.1; omega)⟩, HC, HBB⟩
  case round =>
   obtain ⟨i, done, cy, rfl, HI, HR, HC, HBB⟩ := hrel
   obtain ⟨W, rfl⟩ : ∃ W : World, W = wr := ⟨_, rfl⟩
   by_cases hi : i < xs.length + 1
   ·have hx := HX.out.2.1.2.2.2
    have hy := HX.out.2.2.1.2.2.2
    have hX := Aside0.mk (Kd.C_below HX.out.2.1.1 HBB.out)
    have hY := Aside0.mk (Kd.C_below HX.out.2.2.1.1 HBB.out)
    have e1 := (hx.drop i).headD
    have e2 := (hy.drop i).headD
    have q1 : decide ((i : Int) < (xs.length : Int) + 1) = true := decide_eq_true (by omega)
    have hP := Aside0.mk (show i < xs.length → (0 ≤ (i : Int) ∧ (i : Int) < (xs.length : Int)) from fun h => ⟨by omega, by omega⟩)
    have hP' := Aside0.mk (show i < ys.length → (0 ≤ (i : Int) ∧ (i : Int) < (ys.length : Int)) from fun h => ⟨by omega, by omega⟩)
    have hQ := Aside0.mk (show (¬ i < xs.length → (xs.drop i).headD 0 = 0) ∧ (¬ i < ys.length → (ys.drop i).headD 0 = 0) from ⟨fun h => headD_out (by omega), fun h => headD_out (by omega)⟩)
    obtain ⟨x, hxv⟩ : ∃ x, (xs.drop i).headD 0 = x := ⟨_, rfl⟩
    obtain ⟨y, hyv⟩ : ∃ y, (ys.drop i).headD 0 = y := ⟨_, rfl⟩
    have HI2 := Aside0.mk (HI.out.1.step hx hy hi (by have := HI.out.1.2.2.2.1; omega))
    rw [hxv] at e1 HI2 hQ
    rw [hyv] at e2 HI2 hQ
    have HXV := Aside0.mk hxv
    have HYV := Aside0.mk hyv
    have HE := Aside0.mk (show 0 ≤ x + y ∧ x + y ≤ 8589934590 from by omega)
    have hv8 : IntKind.u64.wrap x = x := IntWalk.u64_in _ (by omega)
    have hv9 : IntKind.u64.wrap y = y := IntWalk.u64_in _ (by omega)
    have hv10 : IntKind.u64.wrap (x + y) = x + y := IntWalk.u64_in _ (by have := HE.out; omega)
    have hw2 : wrap64 ((i : Int) + 1) = ((i + 1 : Nat) : Int) := by clear hv8 hv9 hv10; unfold wrap64; omega
    clear hxv hyv hx hy hl hll e1 e2
    go_upto_if 29 with fail
    go_cut [8] (fun s8 wx => s8 = .int .u64 x ∧ wx = W)
    case first =>
     by_cases h1 : i < xs.length
     ·obtain ⟨ad, e, hc⟩ := Kd.at_int hX.out (i : Int) (hP.out h1).1 (hP.out h1).2
      cases e
      rw [rd_headD, HXV.out, Int.toNat_natCast] at hc
      go_wp2
      go_meet
      exact ⟨rfl, rfl⟩
     ·have H2 := Aside0.mk (hQ.out.1 h1)
      go_wp2
      go_meet
      exact ⟨by rw [H2.out], rfl⟩
    case rest =>
     obtain ⟨rfl, rfl⟩ := hcut
     obtain ⟨W, rfl⟩ : ∃ W : World, W = wc := ⟨_, rfl⟩
     go_upto_if 40 with fail
     go_cut [8] (fun s8 wx => s8 = .int .u64 (x + y) ∧ wx = W)
     case first =>
      by_cases h1 : i < ys.length
      ·obtain ⟨ad, e, hc⟩ := Kd.at_int hY.out (i : Int) (hP'.out h1).1 (hP'.out h1).2
       cases e
       rw [rd_headD, HYV.out, Int.toNat_natCast] at hc
       go_wp2
       go_meet
       exact ⟨rfl, rfl⟩
      ·have H2 := Aside0.mk (hQ.out.2 h1)
       go_wp2
       go_meet
       exact ⟨by rw [H2.out]; simp, rfl⟩
     case rest =>
      obtain ⟨rfl, rfl⟩ := hcut
      obtain ⟨W, rfl⟩ : ∃ W : World, W = wc := ⟨_, rfl⟩
      obtain ⟨v, hv⟩ : ∃ v, x + y = v := ⟨_, rfl⟩
      rw [hv] at HI2 HE ⊢
      clear hv hv8 hv9 hv10
      have hN := Aside0.mk (show 0 ≤ (i : Int) ∧ (i : Int) < ((xs.length + 1 : Nat) : Int) from by clear hw2; omega)
      have hcv := Aside0.mk (show cy + v < 18446744073709551616 ∧ 0 ≤ cy from by clear hw2; have h1 := HI.out.1; obtain ⟨_, _, _, _, _⟩ := h1; have := HE.out.2; omega)
      have hcell := Kd.R_celln 0 HR.out (i : Int) (hN.out.1) (hN.out.2)
      obtain ⟨s0, s1⟩ := hcell
      rw [Int.toNat_natCast] at s0 s1
      have hne1 : g5 ≠ gc := by have := HG.out.2.2; omega
      have hne2 := Ne.symm hne1
      go_wp2_with (first
       | (go_at_call 86; (with_reducible refine (carrier1_calls gc cy v _ hcv.out.2 HE.out.1 hcv.out.1 HC.out).mono ?_); rintro e w3 ⟨rfl, rfl⟩)
       | fail)
      go_roundg (gk - 1)
      case measure => have := HI.out.2; omega
      case rel =>
       have h5 := Kd.R_far (p := ⟨gc, 0, none⟩) (Kd.R_far (p := ⟨gc, 0, none⟩) HR.out (fun k hk => hk) (.int .u64 (cy + v))) (fun k hk => hk) (.int .u64 ((cy + v) / 4294967296))
       have h6 := (Kd.R_putg h5 (i : Int) ((cy + v) % 4294967296)).1
       have e6 : (done ++ List.replicate (xs.length + 1 - i) 0).set (i : Int).toNat ((cy + v) % 4294967296) = (done ++ [(cy + v) % 4294967296]) ++ List.replicate (xs.length + 1 - (i + 1)) 0 := by
        rw [Int.toNat_natCast, show xs.length + 1 - i = (xs.length + 1 - (i + 1)) + 1 from by omega]
        exact set_app _ _ _ _ HI.out.1.2.1
       rw [e6] at h6
       refine ⟨i + 1, _, (cy + v) / 4294967296, by rw [hw2], ⟨HI2.out, by have := HI.out.2; omega⟩, ⟨h6⟩, ⟨?_⟩, ⟨?_⟩⟩
       ·exact blk_far (blk_put (blk_put HC.out 0 _ rfl) 0 _ rfl) (by simpa using hne2) _
       ·exact below_set (below_set (below_set HBB.out (by have := HG.out; omega)) (by have := HG.out; omega)) (by have := HG.out; omega)
   ·have q1 : decide ((i : Int) < (xs.length : Int) + 1) = false := decide_eq_false (by omega)
    go_wp2
    go_ret
    obtain ⟨h1, h2, h3, h4, h5⟩ := HI.out.1
    have hi2 : i = xs.length + 1 := by omega
    have hr := HR.out
    rw [hi2, Nat.sub_self, List.replicate_zero, List.append_nil] at hr
    rw [hi2, Nat.sub_self, sumGo, List.append_nil] at h5
    rw [h5] at hr
    have hv := sumGo_val (xs.length + 1) xs ys 0 HX.out.2.1.2.2.2 HX.out.2.2.1.2.2.2 (by omega) (by omega) (by omega) (by omega)
    refine ⟨_, _, rfl, Kd.R_mono hr (fun _ _ => trivial), sumGo_dg _ _ _ _, ?_, ?_, HBB.out⟩
    ·rw [hv, HX.out.2.2.2.2.2]; omega
    ·rw [sumGo_length]; omega
end Go.Proofs.Ytjmkccabpnigiaa.P
namespace Go.Proofs.Ytjmkccabpnigiaa.P
open Go.RowKit Go.Proofs.YtjmkccabpnigiaaW.PrintWords Go.Proofs.YtjmkccabpnigiaaW.PrintLast Go.Proofs.YtjmkccabpnigiaaW.PrintMore
attribute [local go_sem] max2_int min2_int max_two min_two max_three min_three max_four min_four
set_option linter.unusedVariables false
set_option linter.unusedSimpArgs false
def SubI (a b : List Int) (i : Nat) (done : List Int) (c : Int) : Prop :=
 i ≤ a.length ∧ done.length = i ∧ 0 ≤ c ∧ c ≤ 1 ∧ done ++ subGo (a.drop i) (b.drop i) c = subGo a b 0
theorem drop_cons' (a : List Int) (i : Nat) (h : i < a.length) : a.drop i = (a.drop i).headD 0 :: a.drop (i + 1) := by
 rw [List.drop_eq_getElem_cons h]
 rfl
theorem SubI.step {a b : List Int} {i : Nat} {done : List Int} {c : Int} (h : SubI a b i done c) (hi : i < a.length) :
    (c + (b.drop i).headD 0 > (a.drop i).headD 0 → SubI a b (i + 1) (done ++ [(a.drop i).headD 0 + 4294967296 - (c + (b.drop i).headD 0)]) 1) ∧
    (¬ c + (b.drop i).headD 0 > (a.drop i).headD 0 → SubI a b (i + 1) (done ++ [(a.drop i).headD 0 - (c + (b.drop i).headD 0)]) 0) := by
 obtain ⟨h1, h2, h3, h4, h5⟩ := h
 rw [drop_cons' a i hi, subGo] at h5
 constructor
 ·intro hc
  rw [if_pos hc, drop_tail] at h5
  refine ⟨by omega, by simp [h2], by omega, by omega, ?_⟩
  rw [← h5, List.append_assoc]
  rfl
 ·intro hc
  rw [if_neg hc, drop_tail] at h5
  refine ⟨by omega, by simp [h2], by omega, by omega, ?_⟩
  rw [← h5, List.append_assoc]
  rfl
theorem set_app2 (d : List Int) (a : List Int) (x : Int) (i : Nat) (h : d.length = i) (hi : i < a.length) : (d ++ a.drop i).set i x = (d ++ [x]) ++ a.drop (i + 1) := by
 subst h
 rw [List.set_append_right _ _ (Nat.le_refl _), Nat.sub_self, List.drop_eq_getElem_cons hi, List.set_cons_zero, List.append_assoc]
 rfl
theorem rdOf_app (d a : List Int) (i : Nat) (h : d.length = i) : rdOf 0 (d ++ a.drop i) (i : Int) = (a.drop i).headD 0 := by
 subst h
 simp only [rdOf, List.headD_eq_head?_getD, List.head?_drop, List.getD_eq_getElem?_getD, Int.toNat_natCast]
 rw [List.getElem?_append_right (Nat.le_refl _), Nat.sub_self, List.getElem?_drop, Nat.add_zero]
set_option maxHeartbeats 4000000 in
set_option maxRecDepth 100000 in
theorem subtract_calls (g c0 : Nat) (a : List Int) (A1 : Option Addr) (n1 c1 : Nat) (b : List Int) (w0 w : World) (hB : Below w0.heap.size w0 w) (hR : (Kd.int .u32).R 100 w w0.heap.size (fun _ => True) (.slice (some ⟨g, 0, none⟩) a.length c0) a) (hg : w0.heap.size ≤ g) (hda : Dg a) (hb : MgC w0 A1 n1 c1 b) (hla : a.length ≤ 100000) :
    Calls Try.prog 79 #[.slice (some ⟨g, 0, none⟩) a.length c0, .slice A1 n1 c1] w fun e w' => (∃ r, e = .returned (.int .u32 r)) ∧ (Kd.int .u32).R 100 w' w0.heap.size (fun _ => True) (.slice (some ⟨g, 0, none⟩) a.length c0) (subGo a b 0) ∧ Below w0.heap.size w0 w' := by
 have HB := Aside0.mk hb
 have HR := Aside0.mk hR
 have HW := Aside0.mk hB
 have HA := Aside0.mk (show Dg a ∧ a.length ≤ 100000 ∧ w0.heap.size ≤ g from ⟨hda, hla, hg⟩)
 obtain ⟨_, rfl, _, _⟩ := hb
 clear hR hB hda hla hg
 go_enter Try.func79, Try.ntmps79
 go_wp2
 go_loopg [5, 11] a.length (fun kq v5 v11 w' => ∃ (i : Nat) (done : List Int) (c : Int), v5 = .int .u64 c ∧ v11 = .int .i64 i ∧ Aside0 (SubI a b i done c ∧ i + kq = a.length) ∧ Aside0 ((Kd.int .u32).R 100 w' w0.heap.size (fun _ => True) (.slice (some ⟨g, 0, none⟩) a.length c0) (done ++ a.drop i)) ∧ Aside0 (Below w0.heap.size w0 w'))
 case atStart => exact ⟨0, [], 0, rfl, rfl, ⟨⟨by omega, rfl, by omega, by omega, rfl⟩, by omega⟩, HR, HW⟩
 case round =>
  clear HR HW
  obtain ⟨i, done, cy, rfl, rfl, HI, HR, HW⟩ := hrel
  obtain ⟨W, rfl⟩ : ∃ W : World, W = wr := ⟨_, rfl⟩
  by_cases hi : i < a.length
  ·have hY := Aside0.mk (Kd.C_below HB.out.1 HW.out)
   have e1 := (HA.out.1.drop i).headD
   have e2 := (HB.out.2.2.2.drop i).headD
   have e3 : 0 ≤ cy ∧ cy ≤ 1 := ⟨HI.out.1.2.2.1, HI.out.1.2.2.2.1⟩
   have q1 : decide ((i : Int) < (a.length : Int)) = true := decide_eq_true (by omega)
   have hP' := Aside0.mk (show i < b.length → (0 ≤ (i : Int) ∧ (i : Int) < (b.length : Int)) from fun h => ⟨by omega, by omega⟩)
   have hQ := Aside0.mk (show (¬ i < b.length → (b.drop i).headD 0 = 0) from fun h => headD_out (by omega))
   have hcell := Kd.R_celln 0 HR.out (i : Int) (by omega) (by omega)
   rw [rdOf_app _ _ _ HI.out.1.2.1, Int.toNat_natCast] at hcell
   have HST := Aside0.mk (HI.out.1.step hi)
   have HSET := Aside0.mk (fun x => set_app2 done a x i HI.out.1.2.1 hi)
   obtain ⟨x, hxv⟩ : ∃ x, (a.drop i).headD 0 = x := ⟨_, rfl⟩
   obtain ⟨y, hyv⟩ : ∃ y, (b.drop i).headD 0 = y := ⟨_, rfl⟩
   rw [hxv] at e1 hcell HST
   rw [hyv] at e2 HST hQ
   have HYV := Aside0.mk hyv
   have HE := Aside0.mk (show 0 ≤ x ∧ x < 4294967296 ∧ 0 ≤ y ∧ y < 4294967296 ∧ 0 ≤ cy ∧ cy ≤ 1 from by omega)
   have hw2 : wrap64 ((i : Int) + 1) = ((i + 1 : Nat) : Int) := by have := HA.out.2.1; unfold wrap64; omega
   have hv8 : IntKind.u64.wrap x = x := IntWalk.u64_in _ (by have := HE.out; omega)
   have hv9 : IntKind.u64.wrap y = y := IntWalk.u64_in _ (by have := HE.out; omega)
   have hv10 : IntKind.u64.wrap (cy + y) = cy + y := IntWalk.u64_in _ (by have := HE.out; omega)
   clear hxv hyv e1 e2 e3
   obtain ⟨s0, s1⟩ := hcell
   go_upto_if 18 with fail
   go_cut [7] (fun s7 wx => s7 = .int .u64 (cy + y) ∧ wx = W)
   case first =>
    by_cases h1 : i < b.length
    ·obtain ⟨ad, e, hc⟩ := Kd.at_int hY.out (i : Int) (hP'.out h1).1 (hP'.out h1).2
     cases e
     rw [rd_headD, HYV.out, Int.toNat_natCast] at hc
     go_wp2
     go_meet
     exact ⟨rfl, rfl⟩
    ·have H2 := Aside0.mk (hQ.out h1)
     go_wp2
     go_meet
     exact ⟨by rw [H2.out]; simp, rfl⟩
   case rest =>
    obtain ⟨rfl, rfl⟩ := hcut
    obtain ⟨W, rfl⟩ : ∃ W : World, W = wc := ⟨_, rfl⟩
    obtain ⟨v, hv⟩ : ∃ v, cy + y = v := ⟨_, rfl⟩
    rw [hv] at HST ⊢
    have HV := Aside0.mk (show 0 ≤ v ∧ v ≤ 4294967296 from by have := HE.out; omega)
    clear hv hv10 hv9
    by_cases hgt : v > x
    ·have hs := Aside0.mk (HST.out.1 hgt)
     have hd : decide (x < v) = true := decide_eq_true hgt
     have hvA : IntKind.u64.wrap (x + 4294967296) = x + 4294967296 := IntWalk.u64_in _ (by have := HE.out; omega)
     have hvB : IntKind.u64.wrap (x + 4294967296 - v) = x + 4294967296 - v := IntWalk.u64_in _ (by have := HE.out; have := HV.out; omega)
     have hvC : (x + 4294967296 - v) % 4294967296 = x + 4294967296 - v := by have := HE.out; have := HV.out; clear hw2 hv8 hvA hvB; omega
     clear hgt
     go_wp2
     go_roundg (gk - 1)
     case measure => have := HI.out.2; omega
     case rel =>
      have h6 := (Kd.R_putg HR.out (i : Int) (x + 4294967296 - v)).1
      rw [Int.toNat_natCast, HSET.out] at h6
      exact ⟨i + 1, _, 1, rfl, by first | rw [hw2] | simp, ⟨hs.out, by have := HI.out.2; omega⟩, ⟨h6⟩, ⟨below_set HW.out HA.out.2.2⟩⟩
    ·have hs := Aside0.mk (HST.out.2 hgt)
     have hd : decide (x < v) = false := decide_eq_false hgt
     have hvB : IntKind.u64.wrap (x - v) = x - v := IntWalk.u64_in _ (by have := HE.out; have := HV.out; omega)
     have hvC : (x - v) % 4294967296 = x - v := by have := HE.out; have := HV.out; clear hw2 hv8 hvB; omega
     clear hgt
     go_wp2
     go_roundg (gk - 1)
     case measure => have := HI.out.2; omega
     case rel =>
      have h6 := (Kd.R_putg HR.out (i : Int) (x - v)).1
      rw [Int.toNat_natCast, HSET.out] at h6
      exact ⟨i + 1, _, 0, rfl, by first | rw [hw2] | simp, ⟨hs.out, by have := HI.out.2; omega⟩, ⟨h6⟩, ⟨below_set HW.out HA.out.2.2⟩⟩
  ·have q1 : decide ((i : Int) < (a.length : Int)) = false := decide_eq_false (by omega)
   go_wp2
   go_ret
   obtain ⟨h1, h2, h3, h4, h5⟩ := HI.out.1
   have hi2 : i = a.length := by omega
   have hr := HR.out
   rw [List.drop_eq_nil_of_le (by omega), List.append_nil] at hr
   rw [List.drop_eq_nil_of_le (by omega), subGo, List.append_nil] at h5
   rw [h5] at hr
   exact ⟨⟨_, rfl⟩, hr, HW.out⟩
end Go.Proofs.Ytjmkccabpnigiaa.P
namespace Go.Proofs.Ytjmkccabpnigiaa.P
open Go.RowKit Go.Proofs.YtjmkccabpnigiaaW.PrintWords Go.Proofs.YtjmkccabpnigiaaW.PrintLast Go.Proofs.YtjmkccabpnigiaaW.PrintMore
attribute [local go_sem] max2_int min2_int max_two min_two max_three min_three max_four min_four
set_option linter.unusedVariables false
set_option linter.unusedSimpArgs false
/-- How two numbers compare. -/
def cmp3 (x y : Int) : Int := if x < y then -1 else if y < x then 1 else 0
theorem cmp3_lt {x y : Int} (h : x < y) : cmp3 x y = -1 := if_pos h
theorem cmp3_gt {x y : Int} (h : y < x) : cmp3 x y = 1 := by unfold cmp3; rw [if_neg (by omega), if_pos h]
theorem cmp3_eq (x : Int) : cmp3 x x = 0 := by unfold cmp3; rw [if_neg (by omega), if_neg (by omega)]
theorem cmp_int (x y : Int) : cmp_Compare_int.f x y = some (cmp3 x y) := by
 unfold cmp_Compare_int.f cmp_isNaN_int.f cmp3
 simp only [bne_self_eq_false, Option.bind_some, Bool.false_eq_true, if_false]
 by_cases h1 : x < y
 ·simp [h1]
 ·by_cases h2 : y < x
  ·simp [h1, h2]
  ·simp [h1, h2]
theorem cmp_u32 (x y : Int) : cmp_Compare_uint32.f x y = some (cmp3 x y) := by
 unfold cmp_Compare_uint32.f cmp_isNaN_uint32.f cmp3
 simp only [bne_self_eq_false, Option.bind_some, Bool.false_eq_true, if_false]
 by_cases h1 : x < y
 ·simp [h1]
 ·by_cases h2 : y < x
  ·simp [h1, h2]
  ·simp [h1, h2]
theorem rd_get (a : List Int) (i : Nat) (h : i < a.length) : rd a (i : Int) = a[i] := by
 simp [rd, List.getD_eq_getElem?_getD, List.getElem?_eq_getElem h]
theorem compare_loop {a b : List Int} (ha : Dg a) (hb : Dg b) (hl : a.length = b.length) (hm : a.length ≤ 100000) : ∀ (d k : Nat), d ≤ a.length → d < k → a.drop d = b.drop d → wide_compare.l0 k a b ((d : Int) - 1) = some (cmp3 (val a) (val b)) := by
 intro d
 induction d with
 | zero =>
  intro k _ hk hd
  obtain ⟨k, rfl⟩ : ∃ m, k = m + 1 := ⟨k - 1, by omega⟩
  simp only [List.drop_zero] at hd
  subst hd
  simp only [wide_compare.l0]
  rw [if_neg (by omega), cmp3_eq]
 | succ d ih =>
  intro k hle hk hd
  obtain ⟨k, rfl⟩ : ∃ m, k = m + 1 := ⟨k - 1, by omega⟩
  simp only [wide_compare.l0]
  rw [show ((d + 1 : Nat) : Int) - 1 = (d : Int) from by omega]
  rw [if_pos (by omega), if_pos (by omega), if_pos (by omega), if_pos (by omega), cmp_u32, Option.bind_some, rd_get a d (by omega), rd_get b d (by omega)]
  rcases Int.lt_trichotomy a[d] b[d] with h | h | h
  ·rw [cmp3_lt h, if_neg (by omega), cmp3_lt (val_cmp d ha hb hl (by omega) (by omega) hd h)]
  ·rw [h, cmp3_eq, if_pos rfl]
   have hd2 : a.drop d = b.drop d := by rw [List.drop_eq_getElem_cons (show d < a.length by omega), List.drop_eq_getElem_cons (show d < b.length by omega), h, hd]
   have hw : wrap64 ((d : Int) - 1) = (d : Int) - 1 := by unfold wrap64; omega
   rw [hw]
   exact ih k (by omega) (by omega) hd2
  ·rw [cmp3_gt h, if_neg (by omega), cmp3_gt (val_cmp d hb ha hl.symm (by omega) (by omega) hd.symm h)]
theorem compare_f {a b : List Int} (ha : Dg a) (hb : Dg b) (na : Nz a) (nb : Nz b) (hm : a.length ≤ 100000) (k : Nat) (hk : a.length < k) : wide_compare.f k a b = some (cmp3 (val a) (val b)) := by
 unfold wide_compare.f
 rw [cmp_int, Option.bind_some]
 rcases Nat.lt_trichotomy a.length b.length with h | h | h
 ·rw [cmp3_lt (by omega), if_neg (by omega), cmp3_lt (val_short ha hb nb h)]
 ·rw [h, cmp3_eq, if_pos rfl, ← h]
  have hw : wrap64 ((a.length : Int) - 1) = (a.length : Int) - 1 := by unfold wrap64; omega
  rw [hw]
  exact compare_loop ha hb h hm a.length k (Nat.le_refl _) hk (by rw [List.drop_length, h, List.drop_length])
 ·rw [cmp3_gt (by omega), if_neg (by omega), cmp3_gt (val_short hb ha na h)]
theorem normal_f : ∀ (n : Nat) (k : Nat) (ds : List Int), ds.length = n → n < k → n ≤ 1000000 → Dg ds → ∃ r, wide_normal.l0 k ds = some r ∧ Nz r ∧ val r = val ds ∧ Dg r ∧ r.length ≤ ds.length
 | 0, k, ds, hl, hk, _, hd => by
  obtain ⟨k, rfl⟩ : ∃ m, k = m + 1 := ⟨k - 1, by omega⟩
  obtain rfl := List.eq_nil_of_length_eq_zero hl
  refine ⟨[], ?_, fun h => absurd rfl h, rfl, Dg.nil, Nat.le_refl _⟩
  simp [wide_normal.l0]
 | n + 1, k, ds, hl, hk, hm, hd => by
  obtain ⟨k, rfl⟩ : ∃ m, k = m + 1 := ⟨k - 1, by omega⟩
  have hw : wrap64 ((ds.length : Int) - 1) = (n : Int) := by unfold wrap64; omega
  simp only [wide_normal.l0]
  rw [hw, if_pos (by omega), if_pos (by omega), if_pos (by omega), rd_get ds n (by omega)]
  by_cases h0 : ds[n] = 0
  ·rw [if_pos h0, if_pos (by omega), Int.toNat_natCast]
   obtain ⟨r, h1, h2, h3, h4, h5⟩ := normal_f n k (ds.take n) (by rw [List.length_take]; omega) (by omega) (by omega) (hd.take n)
   refine ⟨r, h1, h2, ?_, h4, by rw [List.length_take] at h5; omega⟩
   rw [h3]
   have := List.take_succ_eq_append_getElem (show n < ds.length by omega)
   rw [h0, ← hl, List.take_length] at this
   exact (val_append_zero _).symm.trans (congrArg val this.symm)
  ·rw [if_neg h0]
   refine ⟨ds, rfl, fun hn => ?_, rfl, hd, Nat.le_refl _⟩
   rw [List.getLast_eq_getElem]
   have : ds.length - 1 = n := by omega
   simp only [this]
   exact h0
theorem V_of_C {w : World} {A : Option Addr} {c : Nat} {xs : List Int} (h : (Kd.int .u32).C w A xs.length xs) (hc : xs.length ≤ c) (base : Nat) : Kd.V (Kd.int .u32) 100 w base (fun _ => True) (.slice A xs.length c) xs :=
 ⟨A, c, rfl, hc, fun W' hW => (Kd.heap_int .u32).C (fun k hk => hW k trivial hk) h⟩
theorem normal_calls (A : Option Addr) (n c : Nat) (ds : List Int) (w : World) (h : MgC w A n c ds) (hl : ds.length ≤ 1000000) :
    Calls Try.prog 73 #[.slice A n c] w fun e w' => ∃ (A' : Option Addr) (c' : Nat) (r : List Int), e = .returned (.slice A' r.length c') ∧ MgC w' A' r.length c' r ∧ Nz r ∧ val r = val ds ∧ r.length ≤ ds.length ∧ Below w.heap.size w w' := by
 obtain ⟨h1, rfl, h2, h3⟩ := h
 obtain ⟨r, e1, e2, e3, e4, e5⟩ := normal_f ds.length (ds.length + 1) ds rfl (by omega) hl h3
 refine (wide_normal.calls (ds.length + 1) _ A c ds r w (V_of_C h1 h2 _) e1).mono ?_
 rintro e w' ⟨v, rfl, hV, hb⟩
 obtain ⟨A', c', rfl⟩ := Kd.V_slice hV
 have h4 := Kd.V_reads' hV
 exact ⟨A', c', r, rfl, ⟨h4.2.2, rfl, h4.2.1, e4⟩, e2, e3, e5, hb⟩
theorem compare_calls (A0 : Option Addr) (n0 c0 : Nat) (a : List Int) (A1 : Option Addr) (n1 c1 : Nat) (b : List Int) (w : World) (ha : MgC w A0 n0 c0 a) (hb : MgC w A1 n1 c1 b) (na : Nz a) (nb : Nz b) (hm : a.length ≤ 100000) :
    Calls Try.prog 68 #[.slice A0 n0 c0, .slice A1 n1 c1] w fun e w' => e = .returned (.int .i64 (cmp3 (val a) (val b))) ∧ Drawn0 w w' := by
 obtain ⟨h1, rfl, h2, h3⟩ := ha
 obtain ⟨k1, rfl, k2, k3⟩ := hb
 exact wide_compare.calls (a.length + 1) A0 c0 a A1 c1 b _ w h1 h2 k1 k2 (compare_f h3 k3 na nb hm _ (by omega))
end Go.Proofs.Ytjmkccabpnigiaa.P
namespace Go.Proofs.Ytjmkccabpnigiaa.P
open Go.RowKit Go.Proofs.YtjmkccabpnigiaaW.PrintWords Go.Proofs.YtjmkccabpnigiaaW.PrintLast Go.Proofs.YtjmkccabpnigiaaW.PrintMore
attribute [local go_sem] max2_int min2_int max_two min_two max_three min_three max_four min_four
set_option linter.unusedVariables false
set_option linter.unusedSimpArgs false
theorem or_low (r d : Int) (hr : 0 ≤ r ∧ r < 4294967296) (hd : 0 ≤ d ∧ d < 4294967296) : Go.bits .or .u64 (r * 4294967296) d = r * 4294967296 + d := by
 have h := bits_join .u64 64 (by decide) (fun n h0 h1 => IntWalk.u64_in n (by omega)) 32 (r * 4294967296) d (by omega) (by omega) (by omega) (by omega) (by omega) (by omega)
 exact h
theorem short_loop {a : List Int} {w : Int} (ha : Dg a) (hw : 0 < w ∧ w < 4294967296) (hm : a.length ≤ 1000000) : ∀ (d k : Nat), d ≤ a.length → d < k →
    wide_short.l0 k a w (List.replicate d 0 ++ (shQ w (a.drop d)).1) (shQ w (a.drop d)).2 ((d : Int) - 1) = some ((shQ w a).1, (shQ w a).2) := by
 intro d
 induction d with
 | zero =>
  intro k _ hk
  obtain ⟨k, rfl⟩ : ∃ m, k = m + 1 := ⟨k - 1, by omega⟩
  have hr := shQ_rest hw.1 a ha
  simp only [wide_short.l0, List.drop_zero, List.replicate_zero, List.nil_append]
  rw [if_neg (by omega), Int.emod_eq_of_lt hr.1 (by omega)]
 | succ d ih =>
  intro k hle hk
  obtain ⟨k, rfl⟩ : ∃ m, k = m + 1 := ⟨k - 1, by omega⟩
  have hr := shQ_rest hw.1 (a.drop (d + 1)) (ha.drop _)
  have hx : 0 ≤ a[d] ∧ a[d] < 4294967296 := ha _ (List.getElem_mem _)
  have hst := shQ_step hw.1 hr hx
  have hww : IntKind.u64.wrap w = w := IntWalk.u64_in _ (by omega)
  have hlen : (List.replicate (d + 1) (0 : Int) ++ (shQ w (a.drop (d + 1))).1).length = a.length := by rw [List.length_append, List.length_replicate, shQ_length, List.length_drop]; omega
  have e := ih k (by omega) (by omega)
  rw [List.drop_eq_getElem_cons (show d < a.length by omega), shQ] at e
  simp only [wide_short.l0]
  rw [show ((d + 1 : Nat) : Int) - 1 = (d : Int) from by omega, hww]
  rw [if_pos (by omega), if_pos (by omega), if_pos (by omega), if_neg (by omega), hlen, if_pos (by omega), rd_get a d (by omega)]
  have hv1 : IntKind.u64.wrap ((shQ w (a.drop (d + 1))).2 * 4294967296) = (shQ w (a.drop (d + 1))).2 * 4294967296 := IntWalk.u64_in _ (by omega)
  have hv2 : IntKind.u64.wrap a[d] = a[d] := IntWalk.u64_in _ (by omega)
  have hw3 : wrap64 ((d : Int) - 1) = (d : Int) - 1 := by clear hv1 hv2 hww; unfold wrap64; omega
  rw [hv1, hv2, or_low _ _ (by clear hv1 hv2 hww; omega) hx, hw3, Int.tdiv_eq_ediv_of_nonneg (by clear hv1 hv2 hww; omega), Int.tmod_eq_emod_of_nonneg (by clear hv1 hv2 hww; omega)]
  have hv4 : IntKind.u64.wrap (((shQ w (a.drop (d + 1))).2 * 4294967296 + a[d]) / w) = ((shQ w (a.drop (d + 1))).2 * 4294967296 + a[d]) / w := IntWalk.u64_in _ (by clear hv1 hv2 hww hw3; omega)
  first | rw [hv4] | skip
  rw [Int.emod_eq_of_lt hst.1 hst.2, Int.toNat_natCast]
  rw [← e]
  congr 1
  rw [List.replicate_succ', List.append_assoc, List.set_append_right _ _ (by simp), List.length_replicate, Nat.sub_self]
  rfl
theorem short_f {a : List Int} {w : Int} (ha : Dg a) (hw : 0 < w ∧ w < 4294967296) (hm : a.length ≤ 1000000) : wide_short.f (a.length + 1) a w = some ((shQ w a).1, (shQ w a).2) := by
 unfold wide_short.f
 have h := short_loop ha hw hm a.length (a.length + 1) (Nat.le_refl _) (by omega)
 have hw3 : wrap64 ((a.length : Int) - 1) = (a.length : Int) - 1 := by unfold wrap64; omega
 rw [if_pos (by omega), if_pos (by omega), hw3, Int.toNat_natCast]
 rw [List.drop_length] at h
 simpa [shQ] using h
theorem short_calls (A : Option Addr) (n c : Nat) (a : List Int) (x : Int) (w : World) (h : MgC w A n c a) (hl : a.length ≤ 1000000) (hx : 0 < x ∧ x < 4294967296) :
    Calls Try.prog 80 #[.slice A n c, .int .u32 x] w fun e w' => ∃ (A' : Option Addr) (c' : Nat) (q : List Int) (r : Int), e = .returned (.tuple #[.slice A' q.length c', .int .u32 r]) ∧ MgC w' A' q.length c' q ∧ val a = x * val q + r ∧ 0 ≤ r ∧ r < x ∧ q.length = a.length ∧ Below w.heap.size w w' := by
 obtain ⟨h1, rfl, h2, h3⟩ := h
 refine (wide_short.calls (a.length + 1) A c a x _ _ w h1 h2 (short_f h3 hx hl)).mono ?_
 rintro e w' ⟨v, rfl, hR, hb⟩
 obtain ⟨A', c', rfl, hc, hC⟩ := Kd.R_reads hR
 have hr := shQ_rest hx.1 a h3
 exact ⟨A', c', _, _, rfl, ⟨hC, rfl, hc, shQ_dg hx.1 a h3⟩, shQ_val hx.1 a, hr.1, hr.2, shQ_length x a, hb⟩
end Go.Proofs.Ytjmkccabpnigiaa.P
