import Derived.Test.YtgmbjgddelcceaaUPlainA
import Derived.Test.YtgmbjgddelcceaaUPx5
import Derived.Test.YtgmbjgddelcceaaUPx7
set_option linter.unusedVariables false
set_option linter.unusedSimpArgs false
namespace Go.Proofs.Ytgmbjgddelcceaa.P
open Go.RowKit Go.Proofs.YtgmbjgddelcceaaW.PrintWords Go.Proofs.YtgmbjgddelcceaaW.PrintLast
def conv (p : S80) : S74 := ⟨p.f0, p.f1, p.f2, p.f3, p.f4, p.f5⟩
theorem valid_eq (a b c d : Int) : skymosaicref36_Valid.f a b c d = some (validB a b c d) := by
  unfold skymosaicref36_Valid.f validB noneB inSide
  by_cases h1 : a = -1
  · subst h1
    rw [if_pos rfl]
    by_cases h2 : b = 0
    · by_cases h3 : c = 0
      · rw [if_pos h2, if_pos h3]; subst h2; subst h3; cases h4 : d == 0 <;> simp
      · rw [if_pos h2, if_neg h3]; simp [h3]
    · rw [if_neg h2]; simp [h2]
  · rw [if_neg h1]
    by_cases h2 : a ≥ 0
    · rw [if_pos h2]
      by_cases h3 : b ≥ 0
      · rw [if_pos h3]
        by_cases h4 : b < 4096
        · rw [if_pos h4]
          by_cases h5 : c ≥ 0
          · rw [if_pos h5]
            have e1 : decide (0 ≤ a) = true := decide_eq_true h2
            have e2 : decide (0 ≤ b) = true := decide_eq_true h3
            have e3 : decide (0 ≤ c) = true := decide_eq_true h5
            have e4 : (a == -1) = false := beq_eq_false_iff_ne.2 h1
            simp only [e1, e2, e3, e4, decide_eq_true h4]; simp
          · rw [if_neg h5]; have e3 : decide (0 ≤ c) = false := decide_eq_false h5
            simp [h1, e3]
        · rw [if_neg h4]; simp [h1, h4]
      · rw [if_neg h3]; have e3 : decide (0 ≤ b) = false := decide_eq_false h3
        simp [h1, e3]
    · rw [if_neg h2]; have e3 : decide (0 ≤ a) = false := decide_eq_false h2
      simp [h1, e3]
theorem wrap_step (a n s : Int) : wrap64 (wrap64 (a + wrap64 (n * s)) + s) = wrap64 (a + wrap64 ((n + 1) * s)) := by
  have e : (n + 1) * s = n * s + s := by rw [Int.add_mul, Int.one_mul]
  rw [e]
  generalize n * s = m
  unfold wrap64
  omega
theorem rd_row (l : List S71) (hl : l.length = 256) (r t : Int) (h0 : 0 ≤ r) (h1 : r < 16) (h2 : 0 ≤ t) (h3 : t < 16) : rd_T71 (rowOf l r) t = rd_T71 l (r * 16 + t) := by
  unfold rd_T71 rowOf
  rw [List.getD_eq_getElem?_getD, List.getD_eq_getElem?_getD, List.getElem?_drop, List.getElem?_take]
  rw [if_pos (by omega)]
  congr 2
  omega
theorem rowP_fuel (r : Int) (l : List S71) : ∀ (k k' : Nat) (fr : Int), 16 - fr ≤ k → 16 - fr ≤ k' → rowP r l k fr = rowP r l k' fr := by
  intro k
  induction k with
  | zero =>
    intro k' fr h h'
    cases k' with
    | zero => rfl
    | succ k' => simp only [rowP]; rw [if_neg (by omega)]
  | succ k ih =>
    intro k' fr h h'
    cases k' with
    | zero => simp only [rowP]; rw [if_neg (by omega)]
    | succ k' =>
      simp only [rowP]
      by_cases hf : fr < 16
      · rw [if_pos hf, if_pos hf]
        have := beginF_to r l fr hf
        rw [ih k' _ (by omega) (by omega)]
      · rw [if_neg hf, if_neg hf]
/-- What is still to come from pixel i on. -/
def tailP (l : List S71) (i : Int) : List S80 := if i < 256 then rowP (i / 16) (rowOf l (i / 16)) 16 (i % 16) ++ packRows l (15 - i / 16).toNat (i / 16 + 1) else []
theorem tailP_step (l : List S71) (i : Int) (h0 : 0 ≤ i) (h : i < 256) : tailP l i = beginF (i / 16) (rowOf l (i / 16)) (i % 16) :: tailP l (i / 16 * 16 + (beginF (i / 16) (rowOf l (i / 16)) (i % 16)).f2) := by
  have hto := beginF_to (i / 16) (rowOf l (i / 16)) (i % 16) (by omega)
  generalize hp : beginF (i / 16) (rowOf l (i / 16)) (i % 16) = p at hto
  have h1 : rowP (i / 16) (rowOf l (i / 16)) 16 (i % 16) = p :: rowP (i / 16) (rowOf l (i / 16)) 15 p.f2 := by
    conv => lhs; unfold rowP
    rw [if_pos (by omega), hp]
  unfold tailP
  rw [if_pos h, h1]
  by_cases hf : p.f2 < 16
  · rw [if_pos (by omega)]
    rw [show (i / 16 * 16 + p.f2) / 16 = i / 16 from by omega, show (i / 16 * 16 + p.f2) % 16 = p.f2 from by omega]
    rw [rowP_fuel (i / 16) _ 15 16 p.f2 (by omega) (by omega)]
    rfl
  · have e16 : p.f2 = 16 := by omega
    rw [e16]
    have h2 : rowP (i / 16) (rowOf l (i / 16)) 15 16 = [] := by unfold rowP; rw [if_neg (by omega)]
    rw [h2, List.cons_append, List.nil_append]
    congr 1
    by_cases hr : i / 16 * 16 + 16 < 256
    · rw [if_pos hr, show (i / 16 * 16 + 16) / 16 = i / 16 + 1 from by omega, show (i / 16 * 16 + 16) % 16 = 0 from by omega]
      rw [show (15 - i / 16).toNat = (15 - (i / 16 + 1)).toNat + 1 from by omega]
      rfl
    · rw [if_neg hr, show (15 - i / 16).toNat = 0 from by omega]
      rfl
theorem packL_tail (l : List S71) : packL l = tailP l 0 := by
  unfold tailP packL
  rw [if_pos (by omega)]
  rfl
/-- The extension of a piece, in the model. -/
theorem l2_ends (l : List S71) (hl : l.length = 256) (out : List S74) (ho : out.length < 256) (r fr : Int) (h0 : 0 ≤ r) (h1 : r < 16) (hf0 : 0 ≤ fr) (hf1 : fr < 16) (p : S80) (hp0 : p.f0 = r) (hp1 : p.f1 = fr) (hp3 : p.f3 = rd_T71 l (r * 16 + fr)) (res : List S74 × Int) :
    ∀ (d : Nat) (t : Int), 16 - t = d → fr + 1 ≤ t → t ≤ 16 → rd_T71 l (r * 16 + (t - 1)) = atS p (t - 1 - fr) →
      Ev (fun k => skymosaicref36_Pack.l1 k l (out ++ [conv { p with f2 := extTo (rowOf l r) p fr d t }]) (r * 16 + extTo (rowOf l r) p fr d t)) res →
      Ev (fun k => skymosaicref36_Pack.l2 k l out (r * 16 + fr) (r * 16 + 16) (r * 16 + t) p.f0 p.f1 0 p.f3.f0 p.f3.f1 p.f3.f2 p.f3.f3 p.f4 p.f5) res := by
  have fin : ∀ (t : Int), fr + 1 ≤ t → t ≤ 16 → (⟨p.f0, p.f1, wrap64 ((wrap64 (p.f1 + (r * 16 + t))) - (r * 16 + fr)), (⟨p.f3.f0, p.f3.f1, p.f3.f2, p.f3.f3⟩ : S71), p.f4, p.f5⟩ : S74) = conv { p with f2 := t } := by
    intro t ht1 ht2
    unfold conv
    rw [hp1, w64 (x := fr + (r * 16 + t)) (by omega), w64 (by omega), show fr + (r * 16 + t) - (r * 16 + fr) = t from by omega]
  intro d
  induction d with
  | zero =>
    intro t hd ht ht2 hat hres
    refine Ev.step (f := fun k => skymosaicref36_Pack.l1 k l (out ++ [conv { p with f2 := t }]) (r * 16 + t)) (fun k => ?_) hres
    conv => lhs; unfold skymosaicref36_Pack.l2
    rw [if_neg (by omega), if_pos (by omega), fin t ht ht2]
  | succ d ih =>
    intro t hd ht ht2 hat hres
    have hn : skymosaicref36_next.f (rd_T71 l (wrap64 (r * 16 + t - 1))).f0 (rd_T71 l (wrap64 (r * 16 + t - 1))).f1 (rd_T71 l (wrap64 (r * 16 + t - 1))).f2 (rd_T71 l (wrap64 (r * 16 + t - 1))).f3 p.f4 p.f5 = some ((atS p (t - fr)).f0, (atS p (t - fr)).f1, (atS p (t - fr)).f2, (atS p (t - fr)).f3) := by
      rw [w64 (by omega), show r * 16 + t - 1 = r * 16 + (t - 1) from by omega, hat]
      simp only [skymosaicref36_next.f, atS]
      rw [wrap_step, wrap_step, show t - 1 - fr + 1 = t - fr from by omega]
    have hrow := rd_row l hl r t h0 h1 (by omega) (by omega)
    cases he : eqS (rd_T71 l (r * 16 + t)) (atS p (t - fr)) with
    | true =>
      have hx : extTo (rowOf l r) p fr (d + 1) t = extTo (rowOf l r) p fr d (t + 1) := by
        simp only [extTo]; rw [if_pos (by omega), hrow, he, if_pos rfl]
      rw [hx] at hres
      have hat2 : rd_T71 l (r * 16 + (t + 1 - 1)) = atS p (t + 1 - 1 - fr) := by
        rw [show t + 1 - 1 = t from by omega]
        unfold eqS at he
        simp only [Bool.and_eq_true, beq_iff_eq] at he
        exact S71.ext2 he.1 he.2.1 he.2.2.1 he.2.2.2
      refine Ev.step (f := fun k => skymosaicref36_Pack.l2 k l out (r * 16 + fr) (r * 16 + 16) (r * 16 + (t + 1)) p.f0 p.f1 0 p.f3.f0 p.f3.f1 p.f3.f2 p.f3.f3 p.f4 p.f5) (fun k => ?_) (ih (t + 1) (by omega) (by omega) (by omega) hat2 hres)
      conv => lhs; unfold skymosaicref36_Pack.l2
      rw [if_pos (by omega), if_pos (by omega), if_pos (by omega), if_pos (by rw [w64 (by omega)]; omega), if_pos (by rw [w64 (by omega)]; omega), hn]
      simp only [Option.bind_some]
      have he2 := he
      unfold eqS at he2
      rw [if_pos he2, w64 (by omega), Int.add_assoc]
    | false =>
      have hx : extTo (rowOf l r) p fr (d + 1) t = t := by
        simp only [extTo]; rw [if_pos (by omega), hrow, he]; rfl
      rw [hx] at hres
      refine Ev.step (f := fun k => skymosaicref36_Pack.l1 k l (out ++ [conv { p with f2 := t }]) (r * 16 + t)) (fun k => ?_) hres
      conv => lhs; unfold skymosaicref36_Pack.l2
      rw [if_pos (by omega), if_pos (by omega), if_pos (by omega), if_pos (by rw [w64 (by omega)]; omega), if_pos (by rw [w64 (by omega)]; omega), hn]
      simp only [Option.bind_some]
      have hne : ¬ (eqS (rd_T71 l (r * 16 + t)) (atS p (t - fr)) = true) := by rw [he]; simp
      unfold eqS at hne
      rw [if_neg hne, if_pos (by omega), fin t ht ht2]
theorem ext_fuel (xs : List S71) (p : S80) (fr : Int) : ∀ (k k' : Nat) (t : Int), 16 - t ≤ k → 16 - t ≤ k' → extTo xs p fr k t = extTo xs p fr k' t := by
  intro k
  induction k with
  | zero => intro k' t h h'; rw [ext_end 0 (by omega), ext_end k' (by omega)]
  | succ k ih =>
    intro k' t h h'
    cases k' with
    | zero => rw [ext_end (k + 1) (by omega), ext_end 0 (by omega)]
    | succ k' =>
      simp only [extTo]
      rw [ih k' (t + 1) (by omega) (by omega)]
theorem at_valid {l : List S71} (hv : l.any badS = false) (i : Int) (h0 : 0 ≤ i) (h : i < l.length) : badS (rd_T71 l i) = false := by
  have h1 : rd_T71 l i ∈ l := by
    unfold rd_T71
    rw [List.getD_eq_getElem?_getD, List.getElem?_eq_getElem (show i.toNat < l.length by omega)]
    exact List.getElem_mem _
  cases hb : badS (rd_T71 l i) with
  | false => rfl
  | true =>
    have := List.any_eq_true.2 ⟨_, h1, hb⟩
    rw [hv] at this
    cases this
theorem good_range {s : S71} (h : badS s = false) : (0 ≤ s.f1 ∧ s.f1 < 4096) ∧ (0 ≤ s.f2 ∧ s.f2 < 4096) := by
  unfold badS validB noneB inSide at h
  simp only [Bool.not_eq_false', Bool.or_eq_true, Bool.and_eq_true, beq_iff_eq, decide_eq_true_eq] at h
  rcases h with h | h <;> omega
theorem begin_first {l : List S71} (hl : l.length = 256) (hv : l.any badS = false) (r fr : Int) (h0 : 0 ≤ r) (h1 : r < 16) (hf0 : 0 ≤ fr) (hf1 : fr < 16) (p : S80) (hp3 : p.f3 = rd_T71 l (r * 16 + fr)) : rd_T71 l (r * 16 + fr) = atS p 0 := by
  have hg := good_range (at_valid hv (r * 16 + fr) (by omega) (by omega))
  unfold atS
  rw [hp3, Int.zero_mul, Int.zero_mul, w64 (x := (0 : Int)) (by omega), w64 (by omega), w64 (by omega)]
  exact S71.ext2 rfl (by simp) (by simp) rfl
theorem l1_packs (l : List S71) (hl : l.length = 256) (hv : l.any badS = false) : ∀ (d : Nat) (i : Int) (out : List S74), 256 - i ≤ d → 0 ≤ i → i ≤ 256 → (out.length : Int) ≤ i →
    Ev (fun k => skymosaicref36_Pack.l1 k l out i) (out ++ (tailP l i).map conv, 0) := by
  have hend : ∀ (out : List S74), Ev (fun k => skymosaicref36_Pack.l1 k l out 256) (out ++ (tailP l 256).map conv, 0) := by
    intro out
    refine Ev.step (f := fun _ => some (out ++ (tailP l 256).map conv, 0)) (fun k => ?_) (Ev.now _)
    conv => lhs; unfold skymosaicref36_Pack.l1
    rw [if_neg (by omega)]
    simp [tailP]
  intro d
  induction d with
  | zero => intro i out hd h0 h256 ho; obtain rfl : i = 256 := by omega
            exact hend out
  | succ d ih =>
    intro i out hd h0 h256 ho
    by_cases hlt : i < 256
    · obtain ⟨r, hr⟩ : ∃ r, i / 16 = r := ⟨_, rfl⟩
      obtain ⟨fr, hfr⟩ : ∃ fr, i % 16 = fr := ⟨_, rfl⟩
      have hi : i = r * 16 + fr := by omega
      have hr0 : 0 ≤ r := by omega
      have hr1 : r < 16 := by omega
      have hf0 : 0 ≤ fr := by omega
      have hf1 : fr < 16 := by omega
      have htail := tailP_step l i h0 hlt
      rw [hr, hfr] at htail
      have hto := beginF_to r (rowOf l r) fr hf1
      have next := ih (r * 16 + (beginF r (rowOf l r) fr).f2) (out ++ [conv (beginF r (rowOf l r) fr)]) (by omega) (by omega) (by omega) (by simp; omega)
      have hres : (out ++ [conv (beginF r (rowOf l r) fr)]) ++ (tailP l (r * 16 + (beginF r (rowOf l r) fr).f2)).map conv = out ++ (tailP l i).map conv := by
        rw [htail]; simp
      rw [hres] at next
      have htm : Int.tmod i 16 = fr := by rw [Int.tmod_eq_emod_of_nonneg h0]; exact hfr
      have htd : Int.tdiv i 16 = r := by rw [Int.tdiv_eq_ediv_of_nonneg h0]; exact hr
      have hend1 : wrap64 (wrap64 (i - Int.tmod i 16) + 16) = r * 16 + 16 := by rw [htm, w64 (x := i - fr) (by omega), w64 (by omega)]; omega
      have hk1 : wrap64 (i + 1) = r * 16 + (fr + 1) := by rw [w64 (by omega)]; omega
      have hrow0 := rd_row l hl r fr hr0 hr1 hf0 hf1
      have hp1 := at_valid hv i h0 (by omega)
      -- the bool of the test
      have main : ∀ b, likeB (rowOf l r) fr = b → Ev (fun k => skymosaicref36_Pack.j2 k l out i (r * 16 + 16) (r * 16 + (fr + 1)) b r fr 0 (rd_T71 l i).f0 (rd_T71 l i).f1 (rd_T71 l i).f2 (rd_T71 l i).f3 0 0) (out ++ (tailP l i).map conv, 0) := by
        intro b hb
        cases b with
        | true =>
          have hl1 : fr + 1 < 16 := by simp [likeB] at hb; omega
          have hrow1 := rd_row l hl r (fr + 1) hr0 hr1 (by omega) hl1
          have hp : begin0 r (rowOf l r) fr = ⟨r, fr, fr + 1, rd_T71 l i, wrap64 ((rd_T71 l (r * 16 + (fr + 1))).f1 - (rd_T71 l i).f1), wrap64 ((rd_T71 l (r * 16 + (fr + 1))).f2 - (rd_T71 l i).f2)⟩ := by
            unfold begin0
            rw [if_pos hb, hrow0, hrow1, ← hi]
          have hbF : beginF r (rowOf l r) fr = { begin0 r (rowOf l r) fr with f2 := extTo (rowOf l r) (begin0 r (rowOf l r) fr) fr (15 - fr).toNat (fr + 1) } := by
            unfold beginF
            rw [ext_fuel _ _ _ 16 (15 - fr).toNat (fr + 1) (by omega) (by omega)]
          rw [hbF] at next
          have h2 := l2_ends l hl out (by omega) r fr hr0 hr1 hf0 hf1 (begin0 r (rowOf l r) fr) (by rw [hp]) (by rw [hp]) (by rw [hp, ← hi]) (out ++ (tailP l i).map conv, 0) (15 - fr).toNat (fr + 1) (by omega) (by omega) (by omega)
            (by rw [show fr + 1 - 1 = fr from by omega, show fr - fr = 0 from by omega]; exact begin_first hl hv r fr hr0 hr1 hf0 hf1 _ (by rw [hp, ← hi])) next
          refine Ev.step (f := fun k => skymosaicref36_Pack.l2 k l out (r * 16 + fr) (r * 16 + 16) (r * 16 + (fr + 1)) (begin0 r (rowOf l r) fr).f0 (begin0 r (rowOf l r) fr).f1 0 (begin0 r (rowOf l r) fr).f3.f0 (begin0 r (rowOf l r) fr).f3.f1 (begin0 r (rowOf l r) fr).f3.f2 (begin0 r (rowOf l r) fr).f3.f3 (begin0 r (rowOf l r) fr).f4 (begin0 r (rowOf l r) fr).f5) (fun k => ?_) h2
          conv => lhs; unfold skymosaicref36_Pack.j2
          rw [if_pos rfl, if_pos (by omega), if_pos (by omega), if_pos (by omega), if_pos (by omega), hp, ← hi]
        | false =>
          have hp : begin0 r (rowOf l r) fr = ⟨r, fr, fr + 1, rd_T71 l i, 0, 0⟩ := by
            unfold begin0
            rw [if_neg (by rw [hb]; simp), hrow0, ← hi]
          have hbF : beginF r (rowOf l r) fr = ⟨r, fr, fr + 1, rd_T71 l i, 0, 0⟩ := by
            unfold beginF
            rw [hp]
            have he : extTo (rowOf l r) ⟨r, fr, fr + 1, rd_T71 l i, 0, 0⟩ fr 16 (fr + 1) = fr + 1 := by
              by_cases hl1 : fr + 1 < 16
              · have hne : eqS (rd_T71 (rowOf l r) (fr + 1)) (atS ⟨r, fr, fr + 1, rd_T71 l i, 0, 0⟩ (fr + 1 - fr)) = false := by
                  unfold likeB at hb
                  rw [decide_eq_true hl1, Bool.true_and, hrow0, ← hi] at hb
                  unfold eqS atS
                  cases h1 : ((rd_T71 (rowOf l r) (fr + 1)).f0 == (rd_T71 l i).f0) with
                  | false => rfl
                  | true =>
                    rw [h1, Bool.true_and] at hb
                    simp only [hb, Bool.and_false]
                conv => lhs; unfold extTo
                rw [if_pos hl1, hne]; rfl
              · exact ext_end _ hl1
            rw [he]
          rw [hbF] at next
          refine Ev.step (f := fun k => skymosaicref36_Pack.l1 k l (out ++ [conv ⟨r, fr, fr + 1, rd_T71 l i, 0, 0⟩]) (r * 16 + (fr + 1))) (fun k => ?_) next
          conv => lhs; unfold skymosaicref36_Pack.j2
          rw [if_neg (by simp), if_pos (by omega)]
          rw [w64 (x := fr + (r * 16 + (fr + 1))) (by omega), w64 (by omega), show fr + (r * 16 + (fr + 1)) - i = fr + 1 from by omega]
          rfl
      have hlk : likeB (rowOf l r) fr = (decide (fr + 1 < 16) && ((rd_T71 l (r * 16 + (fr + 1))).f0 == (rd_T71 l i).f0 && (rd_T71 l (r * 16 + (fr + 1))).f3 == (rd_T71 l i).f3)) := by
        unfold likeB
        by_cases hl1 : fr + 1 < 16
        · rw [rd_row l hl r (fr + 1) hr0 hr1 (by omega) hl1, hrow0, ← hi]
        · rw [decide_eq_false hl1]; rfl
      by_cases hl1 : fr + 1 < 16
      · by_cases hsc : (rd_T71 l (r * 16 + (fr + 1))).f0 = (rd_T71 l i).f0
        · refine Ev.step (f := fun k => skymosaicref36_Pack.j2 k l out i (r * 16 + 16) (r * 16 + (fr + 1)) ((rd_T71 l (r * 16 + (fr + 1))).f3 == (rd_T71 l i).f3) r fr 0 (rd_T71 l i).f0 (rd_T71 l i).f1 (rd_T71 l i).f2 (rd_T71 l i).f3 0 0) (fun k => ?_) (main _ (by rw [hlk, decide_eq_true hl1, beq_iff_eq.2 hsc]; rfl))
          conv => lhs; unfold skymosaicref36_Pack.l1
          rw [hend1, hk1, htm, htd, if_pos hlt, if_pos h0, if_pos (by omega), if_pos (by omega), if_pos (by omega), if_pos (by omega), if_pos hsc, w64 (x := r) (by omega)]
        · refine Ev.step (f := fun k => skymosaicref36_Pack.j2 k l out i (r * 16 + 16) (r * 16 + (fr + 1)) false r fr 0 (rd_T71 l i).f0 (rd_T71 l i).f1 (rd_T71 l i).f2 (rd_T71 l i).f3 0 0) (fun k => ?_) (main _ (by rw [hlk, beq_eq_false_iff_ne.2 hsc]; simp))
          conv => lhs; unfold skymosaicref36_Pack.l1
          rw [hend1, hk1, htm, htd, if_pos hlt, if_pos h0, if_pos (by omega), if_pos (by omega), if_pos (by omega), if_pos (by omega), if_neg hsc, w64 (x := r) (by omega)]
      · refine Ev.step (f := fun k => skymosaicref36_Pack.j2 k l out i (r * 16 + 16) (r * 16 + (fr + 1)) false r fr 0 (rd_T71 l i).f0 (rd_T71 l i).f1 (rd_T71 l i).f2 (rd_T71 l i).f3 0 0) (fun k => ?_) (main _ (by rw [hlk, decide_eq_false hl1]; rfl))
        conv => lhs; unfold skymosaicref36_Pack.l1
        rw [hend1, hk1, htm, htd, if_pos hlt, if_pos h0, if_pos (by omega), if_neg (by omega), w64 (x := r) (by omega)]
    · obtain rfl : i = 256 := by omega
      exact hend out
theorem l0_checks (l : List S71) (hl : l.length = 256) (res : List S74 × Int) (hres : Ev (fun k => skymosaicref36_Pack.l1 k l [] 0) res) : ∀ (d : Nat) (i : Int), 256 - i = d → 0 ≤ i → i ≤ 256 →
    Ev (fun k => skymosaicref36_Pack.l0 k l i) (if (l.drop i.toNat).any badS then ([], 1) else res) := by
  intro d
  induction d with
  | zero =>
    intro i hd h0 h256
    obtain rfl : i = 256 := by omega
    rw [List.drop_eq_nil_of_le (by omega)]
    refine Ev.step (f := fun k => skymosaicref36_Pack.l1 k l [] 0) (fun k => ?_) hres
    conv => lhs; unfold skymosaicref36_Pack.l0
    rw [if_neg (by omega)]
  | succ d ih =>
    intro i hd h0 h256
    have hdrop : l.drop i.toNat = rd_T71 l i :: l.drop (i + 1).toNat := by
      rw [List.drop_eq_getElem_cons (show i.toNat < l.length by omega), show (i + 1).toNat = i.toNat + 1 from by omega]
      congr 1
      simp [rd_T71, List.getD_eq_getElem?_getD, List.getElem?_eq_getElem (show i.toNat < l.length by omega)]
    cases hb : badS (rd_T71 l i) with
    | true =>
      have : (l.drop i.toNat).any badS = true := by rw [hdrop, List.any_cons, hb]; rfl
      rw [this, if_pos rfl]
      refine Ev.step (f := fun _ => some ([], 1)) (fun k => ?_) (Ev.now _)
      conv => lhs; unfold skymosaicref36_Pack.l0
      rw [if_pos (by omega), if_pos h0, if_pos (by omega), valid_eq]
      simp only [Option.bind_some]
      unfold badS at hb
      rw [if_neg (by simpa using hb)]
    | false =>
      have : (l.drop i.toNat).any badS = (l.drop (i + 1).toNat).any badS := by rw [hdrop, List.any_cons, hb]; rfl
      rw [this]
      refine Ev.step (f := fun k => skymosaicref36_Pack.l0 k l (i + 1)) (fun k => ?_) (ih (i + 1) (by omega) (by omega) (by omega))
      conv => lhs; unfold skymosaicref36_Pack.l0
      rw [if_pos (by omega), if_pos h0, if_pos (by omega), valid_eq]
      simp only [Option.bind_some]
      unfold badS at hb
      rw [if_pos (by simpa using hb), w64 (by omega)]
theorem l0_bad (l : List S71) (hl : l.length = 256) (hb0 : l.any badS = true) : ∀ (d : Nat) (i : Int), 256 - i = d → 0 ≤ i → i ≤ 256 → (l.drop i.toNat).any badS = true →
    Ev (fun k => skymosaicref36_Pack.l0 k l i) ([], 1) := by
  intro d
  induction d with
  | zero =>
    intro i hd h0 h256 hb
    rw [List.drop_eq_nil_of_le (by omega)] at hb
    cases hb
  | succ d ih =>
    intro i hd h0 h256 hbb
    have hdrop : l.drop i.toNat = rd_T71 l i :: l.drop (i + 1).toNat := by
      rw [List.drop_eq_getElem_cons (show i.toNat < l.length by omega), show (i + 1).toNat = i.toNat + 1 from by omega]
      congr 1
      simp [rd_T71, List.getD_eq_getElem?_getD, List.getElem?_eq_getElem (show i.toNat < l.length by omega)]
    cases hb : badS (rd_T71 l i) with
    | true =>
      refine Ev.step (f := fun _ => some ([], 1)) (fun k => ?_) (Ev.now _)
      conv => lhs; unfold skymosaicref36_Pack.l0
      rw [if_pos (by omega), if_pos h0, if_pos (by omega), valid_eq]
      simp only [Option.bind_some]
      unfold badS at hb
      rw [if_neg (by simpa using hb)]
    | false =>
      rw [hdrop, List.any_cons, hb, Bool.false_or] at hbb
      refine Ev.step (f := fun k => skymosaicref36_Pack.l0 k l (i + 1)) (fun k => ?_) (ih (i + 1) (by omega) (by omega) (by omega) hbb)
      conv => lhs; unfold skymosaicref36_Pack.l0
      rw [if_pos (by omega), if_pos h0, if_pos (by omega), valid_eq]
      simp only [Option.bind_some]
      unfold badS at hb
      rw [if_pos (by simpa using hb), w64 (by omega)]
/-- What Pack answers. -/
def packF (l : List S71) : List S80 × Int := if l.length = 256 then if l.any badS then ([], 1) else (packL l, 0) else ([], 1)
theorem ref_pack (l : List S71) : Ev (fun k => skymosaicref36_Pack.f k l) ((packF l).1.map conv, (packF l).2) := by
  unfold packF
  by_cases hl : l.length = 256
  · rw [if_pos hl]
    refine Ev.congr (f := fun k => skymosaicref36_Pack.l0 k l 0) (fun k => ?_) ?_
    · unfold skymosaicref36_Pack.f; rw [if_pos (by omega)]
    · cases hb : l.any badS with
      | true =>
        -- the answer of the rest does not matter: the check fails first
        have h := l0_bad l hl hb 256 0 (by omega) (by omega) (by omega)
        exact h (by simpa using hb)
      | false =>
        have h := l0_checks l hl _ (l1_packs l hl hb 256 0 [] (by omega) (by omega) (by omega) (by simp)) 256 0 (by omega) (by omega) (by omega)
        have hb2 : (l.drop (0 : Int).toNat).any badS = false := by simpa using hb
        rw [hb2] at h
        rw [packL_tail]
        exact h
  · rw [if_neg hl]
    refine Ev.congr (f := fun _ => some ([], 1)) (fun k => ?_) (Ev.now _)
    unfold skymosaicref36_Pack.f; rw [if_neg (by omega)]
end Go.Proofs.Ytgmbjgddelcceaa.P
