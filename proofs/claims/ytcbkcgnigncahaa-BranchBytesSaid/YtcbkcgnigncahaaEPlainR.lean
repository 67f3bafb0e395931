import Derived.Test.YtcbkcgnigncahaaEPlainQ
import Derived.Test.YtcbkcgnigncahaaEPlainP
import Derived.Test.YtcbkcgnigncahaaEGivenS
import Derived.Test.YtcbkcgnigncahaaEGivenXi
namespace Go.Proofs.Ytcbkcgnigncahaa.P
open Go.RowKit Go.Maps Go.Proofs.YtcbkcgnigncahaaW.PrintWords
open Wr (uintB intB boolB uintB_len intB_len U8s uintB_u8 u8_app isI)
set_option linter.unusedVariables false
set_option linter.unusedSimpArgs false
def txtB (x : ByteArray) : List Int := uintB 9 (x.size : Int) ++ bytesOf x
def brB (b : S97) : List Int := txtB b.f0 ++ intB b.f1
def verB (v : S92) : List Int := intB v.f1 ++ (txtB v.f2 ++ (intB v.f3 ++ (intB v.f4 ++ (intB v.f5 ++ (uintB 9 v.f6 ++ boolB v.f7)))))
def lineB (r : Rf) : List Int := intB (r.B.length : Int) ++ (r.B.flatMap brB ++ (intB (r.V.length : Int) ++ r.V.flatMap verB))
theorem bytesOf_len (x : ByteArray) : (bytesOf x).length = x.size := by
  unfold Go.Proofs.YtcbkcgnigncahaaW.PrintWords.bytesOf
  rw [List.length_map]
  exact Array.length_toList
theorem txtB_len (x : ByteArray) : (txtB x).length ≤ 10 + x.size := by
  unfold txtB
  have := uintB_len 9 (x.size : Int)
  rw [List.length_append, bytesOf_len]
  omega
theorem brB_len {b : S97} (h : b.f0.size ≤ 16) : (brB b).length ≤ 36 := by
  unfold brB
  have := txtB_len b.f0
  have := intB_len b.f1
  rw [List.length_append]
  omega
theorem boolB_len (b : Bool) : (boolB b).length ≤ 10 := uintB_len 9 _
theorem verB_len {v : S92} (h : v.f2.size ≤ 16) : (verB v).length ≤ 86 := by
  unfold verB
  have := txtB_len v.f2
  have h1 := intB_len v.f1
  have h3 := intB_len v.f3
  have h4 := intB_len v.f4
  have h5 := intB_len v.f5
  have h6 := uintB_len 9 v.f6
  have h7 := boolB_len v.f7
  simp only [List.length_append]
  omega
theorem flat_len {α : Type} (f : α → List Int) (m : Nat) : ∀ l : List α, (∀ x ∈ l, (f x).length ≤ m) → (l.flatMap f).length ≤ m * l.length
  | [], _ => by simp
  | x :: l, h => by
    rw [List.flatMap_cons, List.length_append, List.length_cons]
    have h1 := h x List.mem_cons_self
    have h2 := flat_len f m l (fun y hy => h y (List.mem_cons_of_mem _ hy))
    rw [Nat.mul_succ]
    omega
theorem flat_take {α : Type} (f : α → List Int) (l : List α) (i : Nat) (h : i < l.length) : (l.take (i + 1)).flatMap f = (l.take i).flatMap f ++ f (l[i]) := by
  rw [List.take_succ_eq_append_getElem h, List.flatMap_append]
  simp
theorem bytesOf_u8 (x : ByteArray) : U8s (bytesOf x) := by
  intro y hy
  unfold Go.Proofs.YtcbkcgnigncahaaW.PrintWords.bytesOf at hy
  obtain ⟨b, _, rfl⟩ := List.mem_map.1 hy
  have := b.toNat_lt
  omega
theorem txtB_u8 (x : ByteArray) : U8s (txtB x) := u8_app (uintB_u8 _ _) (bytesOf_u8 x)
theorem flat_u8 {α : Type} (f : α → List Int) (l : List α) (h : ∀ x, U8s (f x)) : U8s (l.flatMap f) := by
  intro y hy
  obtain ⟨x, _, hx⟩ := List.mem_flatMap.1 hy
  exact h x y hx
theorem lineB_u8 (r : Rf) : U8s (lineB r) := by
  unfold lineB
  refine u8_app (uintB_u8 _ _) (u8_app (flat_u8 _ _ fun b => ?_) (u8_app (uintB_u8 _ _) (flat_u8 _ _ fun v => ?_)))
  · exact u8_app (txtB_u8 _) (uintB_u8 _ _)
  · exact u8_app (uintB_u8 _ _) (u8_app (txtB_u8 _) (u8_app (uintB_u8 _ _) (u8_app (uintB_u8 _ _) (u8_app (uintB_u8 _ _) (u8_app (uintB_u8 _ _) (uintB_u8 _ _))))))
/-- The line's names and roots are short. -/
structure Neat (r : Rf) : Prop where
  few : r.B.length ≤ 64
  most : r.V.length ≤ 1024
  nb : ∀ b ∈ r.B, b.f0.size ≤ 16 ∧ isI b.f1
  nv : ∀ v ∈ r.V, v.f2.size ≤ 16 ∧ (0 ≤ v.f6 ∧ v.f6 < 18446744073709551616) ∧ isI v.f1 ∧ isI v.f3 ∧ isI v.f4 ∧ isI v.f5
theorem lineB_len {r : Rf} (h : Neat r) : (lineB r).length ≤ 91000 := by
  unfold lineB
  have h1 := flat_len brB 36 r.B (fun b hb => brB_len (h.nb b hb).1)
  have h2 := flat_len verB 86 r.V (fun v hv => verB_len (h.nv v hv).1)
  have h3 := intB_len (r.B.length : Int)
  have h4 := intB_len (r.V.length : Int)
  have := h.few
  have := h.most
  simp only [List.length_append]
  omega
theorem mem_vOf {V : List S43} {v : S92} (h : v ∈ vOf V) : ∃ i : Int, 0 ≤ i ∧ i < V.length ∧ v = toV (rd_T43 V i) := by
  unfold vOf at h
  obtain ⟨x, hx, rfl⟩ := List.mem_map.1 h
  obtain ⟨i, hi, rfl⟩ := List.getElem_of_mem hx
  refine ⟨(i : Int), by omega, by omega, ?_⟩
  unfold rd_T43
  rw [List.getD_eq_getElem?_getD, Int.toNat_natCast, List.getElem?_eq_getElem hi]
  rfl
theorem Good4.neat {s : Ln} (h : Good4 s) : Neat (rfOf s) := by
  refine ⟨rf_few h.toGood, rf_most h.toGood, fun b hb => ?_, fun v hv => ?_⟩
  · have hb' : b ∈ bOf s.D := hb
    rw [mem_bOf h.ris h.keyed] at hb'
    have he := h.ends _ hb'.1
    have hm := h.most
    refine ⟨h.toGood.short hb'.1, ?_⟩
    unfold Wr.isI
    rw [hb'.2]
    omega
  · obtain ⟨i, h0, h1, rfl⟩ := mem_vOf hv
    have hr := h.rng i h0 h1
    have hp := h.par i h0 h1
    have hm := h.most
    have hq := hr.1
    unfold rangeB tickB at hq
    simp only [Bool.and_eq_true, decide_eq_true_eq] at hq
    refine ⟨h.toGood.short (h.branch i h0 h1), hr.2.2, ?_⟩
    unfold Wr.isI
    simp only [toV]
    omega
theorem lineB_pos (r : Rf) : 0 < (lineB r).length := by
  have : 0 < (intB (r.B.length : Int)).length := by
    unfold Wr.intB
    simp only [Wr.uintB]
    split <;> simp
  unfold lineB
  rw [List.length_append]
  omega
end Go.Proofs.Ytcbkcgnigncahaa.P
