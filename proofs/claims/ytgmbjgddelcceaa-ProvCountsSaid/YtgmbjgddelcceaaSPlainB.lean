import Derived.Test.YtgmbjgddelcceaaSPlainA
import Derived.Test.YtgmbjgddelcceaaSPx5
import Derived.Test.YtgmbjgddelcceaaSPx7
set_option linter.unusedVariables false
set_option linter.unusedSimpArgs false
namespace Go.Proofs.Ytgmbjgddelcceaa.P
open Go.RowKit Go.Proofs.YtgmbjgddelcceaaW.PrintWords Go.Proofs.YtgmbjgddelcceaaW.PrintLast
def conv (p : S80) : S74 := ⟨p.f0, p.f1, p.f2, p.f3, p.f4, p.f5⟩
theorem rd_row (l : List S71) (hl : l.length = 256) (r t : Int) (h0 : 0 ≤ r) (h1 : r < 16) (h2 : 0 ≤ t) (h3 : t < 16) : rd_T71 (rowOf l r) t = rd_T71 l (r * 16 + t) := by
  unfold rd_T71 rowOf
  rw [List.getD_eq_getElem?_getD, List.getD_eq_getElem?_getD, List.getElem?_drop, List.getElem?_take]
  rw [if_pos (by omega)]
  congr 2
  omega
theorem rowP_fuel (r : Int) (l : List S71) : ∀ (k k' : Nat) (fr : Int), 16 - fr ≤ k → 16 - fr ≤ k' → rowP r l k fr = rowP r l k' fr := by
  intro k
  induction k with
  | zero =>
    intro k' fr h h'
    cases k' with
    | zero => rfl
    | succ k' => simp only [rowP]; rw [if_neg (by omega)]
  | succ k ih =>
    intro k' fr h h'
    cases k' with
    | zero => simp only [rowP]; rw [if_neg (by omega)]
    | succ k' =>
      simp only [rowP]
      by_cases hf : fr < 16
      · rw [if_pos hf, if_pos hf]
        have := beginF_to r l fr hf
        rw [ih k' _ (by omega) (by omega)]
      · rw [if_neg hf, if_neg hf]
/-- What is still to come from pixel i on. -/
def tailP (l : List S71) (i : Int) : List S80 := if i < 256 then rowP (i / 16) (rowOf l (i / 16)) 16 (i % 16) ++ packRows l (15 - i / 16).toNat (i / 16 + 1) else []
theorem tailP_step (l : List S71) (i : Int) (h0 : 0 ≤ i) (h : i < 256) : tailP l i = beginF (i / 16) (rowOf l (i / 16)) (i % 16) :: tailP l (i / 16 * 16 + (beginF (i / 16) (rowOf l (i / 16)) (i % 16)).f2) := by
  have hto := beginF_to (i / 16) (rowOf l (i / 16)) (i % 16) (by omega)
  generalize hp : beginF (i / 16) (rowOf l (i / 16)) (i % 16) = p at hto
  have h1 : rowP (i / 16) (rowOf l (i / 16)) 16 (i % 16) = p :: rowP (i / 16) (rowOf l (i / 16)) 15 p.f2 := by
    conv => lhs; unfold rowP
    rw [if_pos (by omega), hp]
  unfold tailP
  rw [if_pos h, h1]
  by_cases hf : p.f2 < 16
  · rw [if_pos (by omega)]
    rw [show (i / 16 * 16 + p.f2) / 16 = i / 16 from by omega, show (i / 16 * 16 + p.f2) % 16 = p.f2 from by omega]
    rw [rowP_fuel (i / 16) _ 15 16 p.f2 (by omega) (by omega)]
    rfl
  · have e16 : p.f2 = 16 := by omega
    rw [e16]
    have h2 : rowP (i / 16) (rowOf l (i / 16)) 15 16 = [] := by unfold rowP; rw [if_neg (by omega)]
    rw [h2, List.cons_append, List.nil_append]
    congr 1
    by_cases hr : i / 16 * 16 + 16 < 256
    · rw [if_pos hr, show (i / 16 * 16 + 16) / 16 = i / 16 + 1 from by omega, show (i / 16 * 16 + 16) % 16 = 0 from by omega]
      rw [show (15 - i / 16).toNat = (15 - (i / 16 + 1)).toNat + 1 from by omega]
      rfl
    · rw [if_neg hr, show (15 - i / 16).toNat = 0 from by omega]
      rfl
theorem packL_tail (l : List S71) : packL l = tailP l 0 := by
  unfold tailP packL
  rw [if_pos (by omega)]
  rfl
theorem at_valid {l : List S71} (hv : l.any badS = false) (i : Int) (h0 : 0 ≤ i) (h : i < l.length) : badS (rd_T71 l i) = false := by
  have h1 : rd_T71 l i ∈ l := by
    unfold rd_T71
    rw [List.getD_eq_getElem?_getD, List.getElem?_eq_getElem (show i.toNat < l.length by omega)]
    exact List.getElem_mem _
  cases hb : badS (rd_T71 l i) with
  | false => rfl
  | true =>
    have := List.any_eq_true.2 ⟨_, h1, hb⟩
    rw [hv] at this
    cases this
theorem good_range {s : S71} (h : badS s = false) : (0 ≤ s.f1 ∧ s.f1 < 4096) ∧ (0 ≤ s.f2 ∧ s.f2 < 4096) := by
  unfold badS validB noneB inSide at h
  simp only [Bool.not_eq_false', Bool.or_eq_true, Bool.and_eq_true, beq_iff_eq, decide_eq_true_eq] at h
  rcases h with h | h <;> omega
theorem begin_first {l : List S71} (hl : l.length = 256) (hv : l.any badS = false) (r fr : Int) (h0 : 0 ≤ r) (h1 : r < 16) (hf0 : 0 ≤ fr) (hf1 : fr < 16) (p : S80) (hp3 : p.f3 = rd_T71 l (r * 16 + fr)) : rd_T71 l (r * 16 + fr) = atS p 0 := by
  have hg := good_range (at_valid hv (r * 16 + fr) (by omega) (by omega))
  unfold atS
  rw [hp3, Int.zero_mul, Int.zero_mul, w64 (x := (0 : Int)) (by omega), w64 (by omega), w64 (by omega)]
  exact S71.ext2 rfl (by simp) (by simp) rfl
/-- What Pack answers. -/
def packF (l : List S71) : List S80 × Int := if l.length = 256 then if l.any badS then ([], 1) else (packL l, 0) else ([], 1)
theorem pack_some (l : List S71) : prov_Pack.f l = some (packF l) := rfl
end Go.Proofs.Ytgmbjgddelcceaa.P
