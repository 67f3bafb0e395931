import Derived.Test.YtgmbjgddelcceaaUPlainC
import Derived.Test.YtgmbjgddelcceaaUPx8
import Derived.Test.YtgmbjgddelcceaaUPx9
import Derived.Test.YtgmbjgddelcceaaUGivenG
set_option linter.unusedVariables false
set_option linter.unusedSimpArgs false
namespace Go.Proofs.Ytgmbjgddelcceaa.P
open Go.RowKit Go.Proofs.YtgmbjgddelcceaaW.PrintWords Go.Proofs.YtgmbjgddelcceaaW.PrintLast
def unconv (p : S74) : S80 := ⟨p.f0, p.f1, p.f2, p.f3, p.f4, p.f5⟩
theorem rd74_get (l : List S74) (i : Int) (h0 : 0 ≤ i) (h : i < l.length) : rd_T74 l i = l[i.toNat]'(by omega) := by
  simp [rd_T74, List.getD_eq_getElem?_getD, List.getElem?_eq_getElem (show i.toNat < l.length by omega)]
theorem take_succ74 (l : List S74) (i : Int) (h0 : 0 ≤ i) (h : i < l.length) : l.take (i + 1).toNat = l.take i.toNat ++ [rd_T74 l i] := by
  rw [show (i + 1).toNat = i.toNat + 1 from by omega, List.take_succ_eq_append_getElem (by omega), rd74_get l i h0 h]
theorem own_loop (l : List S74) (hl : l.length ≤ 1000000) : ∀ (d : Nat) (i : Int), (l.length : Int) - i = d → 0 ≤ i → Ev (fun k => skymosaiclaw36_own.l0 k l ((l.map unconv).take i.toNat) i) (l.map unconv) := by
  intro d
  induction d with
  | zero =>
    intro i hd h0
    refine Ev.step (f := fun _ => some (l.map unconv)) (fun k => ?_) (Ev.now _)
    conv => lhs; unfold skymosaiclaw36_own.l0
    rw [if_neg (by omega), List.take_of_length_le (by simp; omega)]
  | succ d ih =>
    intro i hd h0
    refine Ev.step (f := fun k => skymosaiclaw36_own.l0 k l ((l.map unconv).take (i + 1).toNat) (i + 1)) (fun k => ?_) (ih (i + 1) (by omega) (by omega))
    conv => lhs; unfold skymosaiclaw36_own.l0
    rw [if_pos (by omega), if_pos h0, if_pos (by rw [List.length_take]; simp only [List.length_map]; omega), w64 (by omega)]
    rw [← List.map_take, ← List.map_take, take_succ74 l i h0 (by omega), List.map_append]
    rfl
theorem own_ends (l : List S74) (hl : l.length ≤ 1000000) : Ev (fun k => skymosaiclaw36_own.f k l) (l.map unconv) := own_loop l hl l.length 0 (by omega) (by omega)
theorem own_back (l : List S80) : (l.map conv).map unconv = l := by
  rw [List.map_map]
  have : (unconv ∘ conv) = id := rfl
  rw [this, List.map_id]
end Go.Proofs.Ytgmbjgddelcceaa.P
set_option linter.unusedVariables false
set_option linter.unusedSimpArgs false
namespace Go.Proofs.Ytgmbjgddelcceaa.P
open Go.RowKit Go.Proofs.YtgmbjgddelcceaaW.PrintWords Go.Proofs.YtgmbjgddelcceaaW.PrintLast
end Go.Proofs.Ytgmbjgddelcceaa.P
