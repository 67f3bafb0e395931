import Derived.Test.YtgmbjgddelcceaaUPlainB
import Derived.Test.YtgmbjgddelcceaaUPx6
set_option linter.unusedVariables false
set_option linter.unusedSimpArgs false
namespace Go.Proofs.Ytgmbjgddelcceaa.P
open Go.RowKit Go.Proofs.YtgmbjgddelcceaaW.PrintWords Go.Proofs.YtgmbjgddelcceaaW.PrintLast
theorem take_conv (l : List S80) (i : Int) (h0 : 0 ≤ i) (h : i < l.length) : (l.map conv).take (i + 1).toNat = (l.map conv).take i.toNat ++ [conv (rd_T80 l i)] := by
  rw [show (i + 1).toNat = i.toNat + 1 from by omega, List.take_succ_eq_append_getElem (by simp; omega)]
  congr 2
  simp [rd_T80, List.getD_eq_getElem?_getD, List.getElem?_eq_getElem (show i.toNat < l.length by omega)]
theorem plain_loop (l : List S80) (hl : l.length ≤ 1000000) : ∀ (d : Nat) (i : Int), (l.length : Int) - i = d → 0 ≤ i → Ev (fun k => skymosaiclaw36_plain.l0 k l ((l.map conv).take i.toNat) i) (l.map conv) := by
  intro d
  induction d with
  | zero =>
    intro i hd h0
    refine Ev.step (f := fun _ => some (l.map conv)) (fun k => ?_) (Ev.now _)
    conv => lhs; unfold skymosaiclaw36_plain.l0
    rw [if_neg (by omega), List.take_of_length_le (by simp; omega)]
  | succ d ih =>
    intro i hd h0
    refine Ev.step (f := fun k => skymosaiclaw36_plain.l0 k l ((l.map conv).take (i + 1).toNat) (i + 1)) (fun k => ?_) (ih (i + 1) (by omega) (by omega))
    conv => lhs; unfold skymosaiclaw36_plain.l0
    rw [if_pos (by omega), if_pos h0, if_pos (by rw [List.length_take]; simp only [List.length_map]; omega), w64 (by omega), take_conv l i h0 (by omega)]
    rfl
theorem plain_ends (l : List S80) (hl : l.length ≤ 1000000) : Ev (fun k => skymosaiclaw36_plain.f k l) (l.map conv) := by
  have h := plain_loop l hl l.length 0 (by omega) (by omega)
  exact h
theorem same74_loop (l : List S74) (hl : l.length ≤ 1000000) : ∀ (d : Nat) (i : Int), (l.length : Int) - i = d → 0 ≤ i → Ev (fun k => skymosaicref36_Same.l0 k l l i) true := by
  intro d
  induction d with
  | zero =>
    intro i hd h0
    refine Ev.step (f := fun _ => some true) (fun k => ?_) (Ev.now _)
    conv => lhs; unfold skymosaicref36_Same.l0
    rw [if_neg (by omega)]
  | succ d ih =>
    intro i hd h0
    refine Ev.step (f := fun k => skymosaicref36_Same.l0 k l l (i + 1)) (fun k => ?_) (ih (i + 1) (by omega) (by omega))
    conv => lhs; unfold skymosaicref36_Same.l0
    rw [if_pos (by omega), if_pos h0, if_pos (by omega), if_neg (by simp), w64 (by omega)]
theorem same74_ends (l : List S74) (hl : l.length ≤ 1000000) : Ev (fun k => skymosaicref36_Same.f k l l) true := by
  refine Ev.congr (f := fun k => skymosaicref36_Same.l0 k l l 0) (fun k => ?_) (same74_loop l hl l.length 0 (by omega) (by omega))
  unfold skymosaicref36_Same.f
  rw [if_pos rfl]
theorem ext_all (xs : List S71) (p : S80) (fr : Int) : ∀ (k : Nat) (t u : Int), t ≤ u → u < extTo xs p fr k t → eqS (rd_T71 xs u) (atS p (u - fr)) = true := by
  intro k
  induction k with
  | zero => intro t u h1 h2; simp only [extTo] at h2; omega
  | succ k ih =>
    intro t u h1 h2
    simp only [extTo] at h2
    by_cases ht : t < 16
    · rw [if_pos ht] at h2
      cases he : eqS (rd_T71 xs t) (atS p (t - fr)) with
      | true =>
        rw [he, if_pos rfl] at h2
        by_cases hu : u = t
        · subst hu; exact he
        · exact ih (t + 1) u (by omega) h2
      | false =>
        rw [he] at h2
        simp at h2
        omega
    · rw [if_neg ht] at h2; omega
theorem eqS_eq {a b : S71} (h : eqS a b = true) : a = b := by
  unfold eqS at h
  simp only [Bool.and_eq_true, beq_iff_eq] at h
  exact S71.ext2 h.1 h.2.1 h.2.2.1 h.2.2.2
theorem begin_pixs (l : List S71) (hl : l.length = 256) (hv : l.any badS = false) (r fr : Int) (h0 : 0 ≤ r) (h1 : r < 16) (hf0 : 0 ≤ fr) (hf1 : fr < 16) (j : Int) (hj0 : 0 ≤ j) (hj : fr + j < (beginF r (rowOf l r) fr).f2) :
    atS (beginF r (rowOf l r) fr) j = rd_T71 l (r * 16 + fr + j) := by
  have hto := beginF_to r (rowOf l r) fr hf1
  have e : atS (beginF r (rowOf l r) fr) j = atS (begin0 r (rowOf l r) fr) j := rfl
  rw [e]
  have hp3 : (begin0 r (rowOf l r) fr).f3 = rd_T71 l (r * 16 + fr) := by
    rw [← rd_row l hl r fr h0 h1 hf0 hf1]
    unfold begin0
    split <;> rfl
  by_cases hz : j = 0
  · subst hz
    rw [← begin_first hl hv r fr h0 h1 hf0 hf1 _ hp3, Int.add_zero]
  · have h2 := eqS_eq (ext_all (rowOf l r) (begin0 r (rowOf l r) fr) fr 16 (fr + 1) (fr + j) (by omega) hj)
    rw [show fr + j - fr = j from by omega] at h2
    rw [← h2, rd_row l hl r (fr + j) h0 h1 (by omega) (by omega), Int.add_assoc]
theorem rd_get (l : List S71) (i : Int) (h0 : 0 ≤ i) (h : i < l.length) : l[i.toNat]'(by omega) = rd_T71 l i := by
  simp [rd_T71, List.getD_eq_getElem?_getD, List.getElem?_eq_getElem (show i.toNat < l.length by omega)]
theorem unpack_tail (l : List S71) (hl : l.length = 256) (hv : l.any badS = false) : ∀ (d : Nat) (i : Int), 256 - i ≤ d → 0 ≤ i → i ≤ 256 → unpackGo (tailP l i) (l.take i.toNat) = some l := by
  have hend : unpackGo (tailP l 256) (l.take (256 : Int).toNat) = some l := by
    have : tailP l 256 = [] := by unfold tailP; rw [if_neg (by omega)]
    rw [this]
    simp only [unpackGo]
    rw [List.take_of_length_le (by rw [hl]; decide)]
  intro d
  induction d with
  | zero => intro i hd h0 h; obtain rfl : i = 256 := by omega
            exact hend
  | succ d ih =>
    intro i hd h0 h
    by_cases hlt : i < 256
    · obtain ⟨r, hr⟩ : ∃ r, i / 16 = r := ⟨_, rfl⟩
      obtain ⟨fr, hfr⟩ : ∃ fr, i % 16 = fr := ⟨_, rfl⟩
      have hto := beginF_to r (rowOf l r) fr (by omega)
      have hstep := tailP_step l i h0 hlt
      rw [hr, hfr] at hstep
      have hpx := begin_pixs l hl hv r fr (by omega) (by omega) (by omega) (by omega)
      have next := ih (r * 16 + (beginF r (rowOf l r) fr).f2) (by omega) (by omega) (by omega)
      have hf0 : (beginF r (rowOf l r) fr).f0 = r := by unfold beginF begin0; split <;> rfl
      have hf1 : (beginF r (rowOf l r) fr).f1 = fr := by unfold beginF begin0; split <;> rfl
      rw [hstep]
      generalize beginF r (rowOf l r) fr = p at *
      have hlen : ((l.take i.toNat).length : Int) = i := by rw [List.length_take]; omega
      have hbp : badPiece p (l.take i.toNat) = false := by
        unfold badPiece
        rw [hlen, hf0, hf1, hr, hfr, decide_eq_false (show ¬ p.f2 ≤ fr by omega), decide_eq_false (show ¬ p.f2 > 16 by omega), decide_eq_false (show ¬ i ≥ 256 by omega)]
        simp
      have hpix : pixs p (p.f2 - p.f1).toNat = (l.drop i.toNat).take (p.f2 - p.f1).toNat := by
        apply List.ext_getElem
        · rw [pixs_length, List.length_take, List.length_drop]; omega
        · intro j hj1 hj2
          rw [pixs_length] at hj1
          simp only [pixs, List.getElem_map, List.getElem_range, List.getElem_take, List.getElem_drop]
          rw [hpx j (by omega) (by omega)]
          have := rd_get l (r * 16 + fr + j) (by omega) (by omega)
          rw [← this]
          congr 1
          omega
      have hgood : (pixs p (p.f2 - p.f1).toNat).any badS = false := by
        rw [hpix]
        cases hb : ((l.drop i.toNat).take (p.f2 - p.f1).toNat).any badS with
        | false => rfl
        | true =>
          obtain ⟨y, hy, hbad⟩ := List.any_eq_true.1 hb
          have := List.any_eq_true.2 ⟨y, List.mem_of_mem_drop (List.mem_of_mem_take hy), hbad⟩
          rw [hv] at this
          cases this
      simp only [unpackGo]
      rw [hbp, if_neg (by simp), hgood, if_neg (by simp), hpix, ← List.take_add]
      rw [show i.toNat + (p.f2 - p.f1).toNat = (r * 16 + p.f2).toNat from by omega]
      exact next
    · obtain rfl : i = 256 := by omega
      exact hend
theorem unpack_back (l : List S71) (h : (packF l).2 = 0) : unpackF (packF l).1 = (l, 0) ∧ l.length = 256 ∧ l.any badS = false ∧ (packF l).1 = packL l := by
  unfold packF at h ⊢
  by_cases hl : l.length = 256
  · rw [if_pos hl] at h ⊢
    cases hb : l.any badS with
    | true => rw [hb] at h; simp at h
    | false =>
      rw [if_neg (by simp)]
      have h1 := unpack_tail l hl hb 256 0 (by omega) (by omega) (by omega)
      rw [← packL_tail] at h1
      refine ⟨?_, hl, rfl, rfl⟩
      unfold unpackF
      have h2 : unpackGo (packL l) [] = some l := h1
      simp only [h2]
      rw [if_pos (by omega)]; simp
  · rw [if_neg hl] at h; simp at h
theorem rowP_len (r : Int) (l : List S71) : ∀ (k : Nat) (fr : Int), (rowP r l k fr).length ≤ k := by
  intro k
  induction k with
  | zero => intro fr; simp [rowP]
  | succ k ih =>
    intro fr
    simp only [rowP]
    split
    · have := ih (beginF r l fr).f2
      simp; omega
    · simp
theorem packRows_len (l : List S71) : ∀ (k : Nat) (r : Int), (packRows l k r).length ≤ 16 * k := by
  intro k
  induction k with
  | zero => intro r; simp [packRows]
  | succ k ih =>
    intro r
    simp only [packRows, List.length_append]
    have := rowP_len r (rowOf l r) 16 0
    have := ih (r + 1)
    omega
end Go.Proofs.Ytgmbjgddelcceaa.P
