import Derived.Test.YtgmbjgddelcceaaQPlainD
import Derived.Test.YtgmbjgddelcceaaQPx9
import Derived.Test.YtgmbjgddelcceaaQGivenG
set_option linter.unusedVariables false
set_option linter.unusedSimpArgs false
namespace Go.Proofs.Ytgmbjgddelcceaa.P
open Go.RowKit Go.Proofs.YtgmbjgddelcceaaW.PrintWords Go.Proofs.YtgmbjgddelcceaaW.PrintLast
theorem rowsQ_snoc (all : List S71) (x y wd : Int) : ∀ (k : Nat) (r : Int), rowsQ all x y wd (k + 1) r = rowsQ all x y wd k r ++ winOf all ((y + (r + k)) * 16 + x) wd
  | 0, r => by simp [rowsQ]
  | k + 1, r => by
    have h := rowsQ_snoc all x y wd k (r + 1)
    rw [rowsQ, h, rowsQ, List.append_assoc]
    rw [show r + 1 + (k : Int) = r + ((k + 1 : Nat) : Int) from by omega]
theorem rowsQ_shift (all : List S71) (x y wd : Int) : ∀ (k : Nat) (r : Int) (n : Int), rowsQ all x y wd k (r + n) = rowsQ all x (y + n) wd k r
  | 0, r, n => rfl
  | k + 1, r, n => by
    have h := rowsQ_shift all x y wd k (r + 1) n
    simp only [rowsQ]
    rw [show r + n + 1 = r + 1 + n from by omega, h, show y + (r + n) = y + n + r from by omega]
theorem rowsQ_split (all : List S71) (x y wd : Int) : ∀ (j k : Nat) (r : Int), rowsQ all x y wd j r ++ rowsQ all x y wd k (r + j) = rowsQ all x y wd (j + k) r
  | 0, k, r => by simp [rowsQ]
  | j + 1, k, r => by
    have h := rowsQ_split all x y wd j k (r + 1)
    rw [show j + 1 + k = (j + k) + 1 from by omega]
    simp only [rowsQ]
    rw [List.append_assoc, ← h, show r + 1 + (j : Int) = r + ((j + 1 : Nat) : Int) from by omega]
theorem winOf_snoc (all : List S71) (hl : all.length = 256) (fr n : Int) (h0 : 0 ≤ fr) (h1 : 0 ≤ n) (h2 : fr + n < 256) : winOf all fr (n + 1) = winOf all fr n ++ [rd_T71 all (fr + n)] := by
  unfold winOf
  rw [show (fr + (n + 1)).toNat = (fr + n).toNat + 1 from by omega, List.take_succ_eq_append_getElem (by omega), List.drop_append_of_le_length (by rw [List.length_take]; omega), rd_get all (fr + n) (by omega) (by omega)]
theorem winOf_nil (all : List S71) (fr : Int) : winOf all fr 0 = [] := by
  unfold winOf
  rw [Int.add_zero, List.drop_eq_nil_of_le (by rw [List.length_take]; omega)]
def clampQ (a h : Int) : Int := if a ≤ 0 then 0 else if a ≤ h then a else h
def accQ (all : List S71) (x y wd h i : Int) : List S71 :=
  rowsQ all x y wd (clampQ (i / 16 - y) h).toNat 0 ++ (if y ≤ i / 16 ∧ i / 16 < y + h then winOf all (i / 16 * 16 + x) (clampQ (i % 16 - x) wd) else [])
theorem accQ_step (all : List S71) (hl : all.length = 256) (x y wd h i : Int) (hx0 : 0 ≤ x) (hw0 : 0 ≤ wd) (hxw : x + wd ≤ 16) (hy0 : 0 ≤ y) (hh0 : 0 ≤ h) (hyh : y + h ≤ 16) (h0 : 0 ≤ i) (h1 : i < 256) :
    accQ all x y wd h (i + 1) = accQ all x y wd h i ++ (if i % 16 ≥ x ∧ i % 16 < x + wd ∧ i / 16 ≥ y ∧ i / 16 < y + h then [rd_T71 all i] else []) := by
  obtain ⟨r, hr⟩ : ∃ r, i / 16 = r := ⟨_, rfl⟩
  obtain ⟨c, hc⟩ : ∃ c, i % 16 = c := ⟨_, rfl⟩
  have hi : i = r * 16 + c := by omega
  -- the part of this row
  have hpart : winOf all (r * 16 + x) (clampQ (c + 1 - x) wd) = winOf all (r * 16 + x) (clampQ (c - x) wd) ++ (if c ≥ x ∧ c < x + wd then [rd_T71 all i] else []) := by
    by_cases c1 : c ≥ x ∧ c < x + wd
    · rw [if_pos c1]
      have e1 : clampQ (c + 1 - x) wd = (c - x) + 1 := by unfold clampQ; rw [if_neg (by omega), if_pos (by omega)]; omega
      have e2 : clampQ (c - x) wd = c - x := by unfold clampQ; split <;> (try split) <;> omega
      rw [e1, e2, winOf_snoc all hl _ _ (by omega) (by omega) (by omega)]
      congr 2
      rw [hi]; congr 1; omega
    · rw [if_neg c1, List.append_nil]
      congr 1
      unfold clampQ
      split <;> split <;> (try split) <;> (try split) <;> omega
  unfold accQ
  rw [hr, hc]
  by_cases c15 : c = 15
  · have e1 : (i + 1) / 16 = r + 1 := by omega
    have e2 : (i + 1) % 16 = 0 := by omega
    rw [e1, e2]
    have hz : clampQ (0 - x) wd = 0 := by unfold clampQ; rw [if_pos (by omega)]
    have hp0 : (if y ≤ r + 1 ∧ r + 1 < y + h then winOf all ((r + 1) * 16 + x) (clampQ (0 - x) wd) else []) = [] := by
      rw [hz, winOf_nil]; split <;> rfl
    rw [hp0, List.append_nil]
    by_cases cr : y ≤ r ∧ r < y + h
    · rw [if_pos cr]
      have f1 : (clampQ (r + 1 - y) h).toNat = (clampQ (r - y) h).toNat + 1 := by
        unfold clampQ
        split <;> split <;> (try split) <;> (try split) <;> omega
      have f2 : (clampQ (r - y) h).toNat = (r - y).toNat := by
        unfold clampQ
        split <;> (try split) <;> omega
      rw [f1, rowsQ_snoc, f2, List.append_assoc]
      congr 1
      rw [show y + (0 + ((r - y).toNat : Int)) = r from by omega]
      have hfull : clampQ (c + 1 - x) wd = wd := by
        unfold clampQ
        split <;> (try split) <;> omega
      rw [hfull] at hpart
      rw [hpart]
      congr 1
      by_cases c1 : c ≥ x ∧ c < x + wd
      · rw [if_pos c1, if_pos ⟨c1.1, c1.2, cr.1, cr.2⟩]
      · rw [if_neg c1, if_neg (by omega)]
    · rw [if_neg cr, if_neg (by omega), List.append_nil, List.append_nil]
      congr 2
      unfold clampQ
      split <;> split <;> (try split) <;> (try split) <;> omega
  · have e1 : (i + 1) / 16 = r := by omega
    have e2 : (i + 1) % 16 = c + 1 := by omega
    rw [e1, e2, List.append_assoc]
    congr 1
    by_cases cr : y ≤ r ∧ r < y + h
    · rw [if_pos cr, if_pos cr, hpart]
      congr 1
      by_cases c1 : c ≥ x ∧ c < x + wd
      · rw [if_pos c1, if_pos ⟨c1.1, c1.2, cr.1, cr.2⟩]
      · rw [if_neg c1, if_neg (by omega)]
    · rw [if_neg cr, if_neg cr, if_neg (by omega), List.append_nil]
theorem accQ_zero (all : List S71) (x y wd h : Int) (hx0 : 0 ≤ x) (hy0 : 0 ≤ y) : accQ all x y wd h 0 = [] := by
  unfold accQ
  have e1 : clampQ (0 / 16 - y) h = 0 := by unfold clampQ; rw [if_pos (by omega)]
  have e2 : clampQ (0 % 16 - x) wd = 0 := by unfold clampQ; rw [if_pos (by omega)]
  rw [e1, e2, winOf_nil]
  simp [rowsQ]
theorem accQ_end (all : List S71) (x y wd h : Int) (hh0 : 0 ≤ h) (hyh : y + h ≤ 16) : accQ all x y wd h 256 = rowsQ all x y wd h.toNat 0 := by
  unfold accQ
  have e1 : clampQ (256 / 16 - y) h = h := by unfold clampQ; split <;> (try split) <;> omega
  rw [e1, if_neg (by omega), List.append_nil]
theorem query_loop (all : List S71) (hl : all.length = 256) (x y wd h : Int) (hx0 : 0 ≤ x) (hw0 : 0 ≤ wd) (hxw : x + wd ≤ 16) (hy0 : 0 ≤ y) (hh0 : 0 ≤ h) (hyh : y + h ≤ 16) : ∀ (d : Nat) (i : Int), 256 - i = d → 0 ≤ i → (accQ all x y wd h i).length ≤ i.toNat →
    Ev (fun k => skymosaicref36_Query.l0 k all (accQ all x y wd h i) i x y wd h) (rowsQ all x y wd h.toNat 0, 0) := by
  intro d
  induction d with
  | zero =>
    intro i hd h0 hlen
    obtain rfl : i = 256 := by omega
    rw [accQ_end all x y wd h hh0 hyh]
    refine Ev.step (f := fun _ => some (rowsQ all x y wd h.toNat 0, 0)) (fun k => ?_) (Ev.now _)
    conv => lhs; unfold skymosaicref36_Query.l0
    rw [if_neg (by omega)]
  | succ d ih =>
    intro i hd h0 hlen
    have hs := accQ_step all hl x y wd h i hx0 hw0 hxw hy0 hh0 hyh h0 (by omega)
    have hlen2 : (accQ all x y wd h (i + 1)).length ≤ (i + 1).toNat := by
      rw [hs, List.length_append]
      split
      · simp; omega
      · simp; omega
    refine Ev.step (f := fun k => skymosaicref36_Query.l0 k all (accQ all x y wd h (i + 1)) (i + 1) x y wd h) (fun k => ?_) (ih (i + 1) (by omega) (by omega) hlen2)
    conv => lhs; unfold skymosaicref36_Query.l0
    rw [hs, if_pos (by omega)]
    have htm : Int.tmod i 16 = i % 16 := Int.tmod_eq_emod_of_nonneg h0
    have htd : Int.tdiv i 16 = i / 16 := Int.tdiv_eq_ediv_of_nonneg h0
    rw [htm, htd, w64 (x := i / 16) (by omega), w64 (x := x + wd) (by omega), w64 (x := y + h) (by omega), w64 (x := i + 1) (by omega)]
    by_cases c1 : i % 16 ≥ x
    · rw [if_pos c1]
      by_cases c2 : i % 16 < x + wd
      · rw [if_pos c2]
        by_cases c3 : i / 16 ≥ y
        · rw [if_pos c3]
          by_cases c4 : i / 16 < y + h
          · rw [if_pos c4, if_pos h0, if_pos (by omega), if_pos (by omega), if_pos ⟨c1, c2, c3, c4⟩]
          · rw [if_neg c4, if_neg (by omega), List.append_nil]
        · rw [if_neg c3, if_neg (by omega), List.append_nil]
      · rw [if_neg c2, if_neg (by omega), List.append_nil]
    · rw [if_neg c1, if_neg (by omega), List.append_nil]
theorem ref_query (l : List S80) (hl : l.length ≤ 1000000) (x y wd h : Int) : Ev (fun k => skymosaicref36_Query.f k (l.map conv) x y wd h) (queryF l x y wd h) := by
  have hu := ref_unpack l hl
  refine Ev.bind hu ?_
  by_cases he : (unpackF l).2 = 0
  · have hlen := unpackF_len l he
    unfold queryF
    rw [if_pos he]
    obtain ⟨all, ha⟩ : ∃ all, (unpackF l).1 = all := ⟨_, rfl⟩
    rw [ha] at hlen ⊢
    have hbad : Ev (fun k => skymosaicref36_Query.j0 k all true x y wd h) ([], 5) := by
      refine Ev.step (f := fun _ => some ([], 5)) (fun k => ?_) (Ev.now _)
      rfl
    by_cases c1 : x < 0
    · have : inQ x wd = false := by simp [inQ]; omega
      rw [this]
      exact Ev.congr (fun k => by rw [if_pos he, if_pos c1]) hbad
    · by_cases c2 : y < 0
      · have : inQ y h = false := by simp [inQ]; omega
        rw [this, Bool.and_false]
        exact Ev.congr (fun k => by rw [if_pos he, if_neg c1, if_pos c2]) hbad
      · by_cases c3 : wd < 0
        · have : inQ x wd = false := by simp [inQ]; omega
          rw [this]
          exact Ev.congr (fun k => by rw [if_pos he, if_neg c1, if_neg c2, if_pos c3]) hbad
        · by_cases c4 : h < 0
          · have : inQ y h = false := by simp [inQ]; omega
            rw [this, Bool.and_false]
            exact Ev.congr (fun k => by rw [if_pos he, if_neg c1, if_neg c2, if_neg c3, if_pos c4]) hbad
          · by_cases c5 : x > 16
            · have : inQ x wd = false := by simp [inQ]; omega
              rw [this]
              exact Ev.congr (fun k => by rw [if_pos he, if_neg c1, if_neg c2, if_neg c3, if_neg c4, if_pos c5]) hbad
            · by_cases c6 : y > 16
              · have : inQ y h = false := by simp [inQ]; omega
                rw [this, Bool.and_false]
                exact Ev.congr (fun k => by rw [if_pos he, if_neg c1, if_neg c2, if_neg c3, if_neg c4, if_neg c5, if_pos c6]) hbad
              · have hwx : wrap64 (16 - x) = 16 - x := w64 (by omega)
                have hwy : wrap64 (16 - y) = 16 - y := w64 (by omega)
                by_cases c7 : wd > 16 - x
                · have : inQ x wd = false := by simp [inQ]; omega
                  rw [this]
                  exact Ev.congr (fun k => by rw [if_pos he, if_neg c1, if_neg c2, if_neg c3, if_neg c4, if_neg c5, if_neg c6, hwx, if_pos c7]) hbad
                · have hin : inQ x wd = true := by simp [inQ]; omega
                  rw [hin, Bool.true_and]
                  by_cases c8 : h > 16 - y
                  · have : inQ y h = false := by simp [inQ]; omega
                    rw [this]
                    exact Ev.congr (fun k => by rw [if_pos he, if_neg c1, if_neg c2, if_neg c3, if_neg c4, if_neg c5, if_neg c6, hwx, if_neg c7, hwy, decide_eq_true c8]) hbad
                  · have : inQ y h = true := by simp [inQ]; omega
                    rw [this, if_pos rfl]
                    have hq := query_loop all hlen x y wd h (by omega) (by omega) (by omega) (by omega) (by omega) (by omega) 256 0 (by omega) (by omega) (by rw [accQ_zero all x y wd h (by omega) (by omega)]; simp)
                    rw [accQ_zero all x y wd h (by omega) (by omega)] at hq
                    have hj : Ev (fun k => skymosaicref36_Query.j0 k all false x y wd h) (rowsQ all x y wd h.toNat 0, 0) := by
                      refine Ev.step (f := fun k => skymosaicref36_Query.l0 k all [] 0 x y wd h) (fun k => ?_) hq
                      rfl
                    exact Ev.congr (fun k => by rw [if_pos he, if_neg c1, if_neg c2, if_neg c3, if_neg c4, if_neg c5, if_neg c6, hwx, if_neg c7, hwy, decide_eq_false c8]) hj
  · have hq : queryF l x y wd h = ([], (unpackF l).2) := by unfold queryF; rw [if_neg he]
    rw [hq]
    refine Ev.congr (f := fun _ => some ([], (unpackF l).2)) (fun k => ?_) (Ev.now _)
    rw [if_neg he]
end Go.Proofs.Ytgmbjgddelcceaa.P
