import Derived.Test.YtgmbjgddelcceaaRPlainF
set_option linter.unusedVariables false
set_option linter.unusedSimpArgs false
namespace Go.Proofs.Ytgmbjgddelcceaa.P
open Go.RowKit Go.Proofs.YtgmbjgddelcceaaW.PrintWords Go.Proofs.YtgmbjgddelcceaaW.PrintLast
def isI (x : Int) : Prop := -9223372036854775808 ≤ x ∧ x ≤ 9223372036854775807
/-- A piece of machine numbers whose scene is -1 or none below 0. -/
def wfP (p : S80) : Prop := isI p.f2 ∧ isI p.f3.f0 ∧ (∀ m ∈ nums p, isI m) ∧ (0 ≤ p.f3.f3 ∧ p.f3.f3 < 18446744073709551616) ∧ (p.f3.f0 < 0 ↔ p.f3.f0 = -1)
theorem renc_nums (x0 : List S74) (i : Int) (p : S80) (hw : wfP p) (res : List Int) (cs0 : List Int) (hl : cs0.length ≤ 1000000)
    (hres : Ev (fun k => skymosaicref36_Encode.l0 k x0 (cs0 ++ tailB p) (wrap64 (i + 1))) res) : ∀ (d : Nat) (j : Int), 4 - j = d → 0 ≤ j →
    Ev (fun k => skymosaicref36_Encode.l1 k x0 (cs0 ++ ((nums p).take j.toNat).flatMap intB) i (nums p) j p.f0 p.f1 p.f2 p.f3.f0 p.f3.f1 p.f3.f2 p.f3.f3 p.f4 p.f5) res := by
  have hlen : (nums p).length = 4 := rfl
  have hb : ∀ j : Nat, (((nums p).take j).flatMap intB).length ≤ 40 := by
    intro j
    have h : ∀ l : List Int, (l.flatMap intB).length ≤ 10 * l.length := by
      intro l
      induction l with
      | nil => simp
      | cons x l ih => have := intB_len x; simp only [List.flatMap_cons, List.length_append, List.length_cons]; omega
    have := h ((nums p).take j)
    rw [List.length_take] at this
    omega
  intro d
  induction d with
  | zero =>
    intro j hd h0
    obtain rfl : j = 4 := by omega
    have e : (nums p).take (4 : Int).toNat = nums p := rfl
    rw [e]
    have hb4 := hb 4
    have e4 : (nums p).take 4 = nums p := rfl
    rw [e4] at hb4
    have hu := uintB_len 9 p.f3.f3
    refine Ev.step (f := fun k => (skymosaicref02_Uint.f k p.f3.f3).bind fun t388 => (if (cs0 ++ (nums p).flatMap intB).length + t388.length < 140737488355328 then (skymosaicref36_Encode.l0 k x0 ((cs0 ++ (nums p).flatMap intB) ++ t388) (wrap64 (i + 1))) else (none))) (fun k => ?_) ?_
    · conv => lhs; unfold skymosaicref36_Encode.l1
      rw [if_neg (by omega)]
    · refine Ev.bind (ruint_ends _ hw.2.2.2.1.1 hw.2.2.2.1.2) ?_
      refine Ev.congr (f := fun k => skymosaicref36_Encode.l0 k x0 (cs0 ++ tailB p) (wrap64 (i + 1))) (fun k => ?_) hres
      rw [if_pos (by rw [List.length_append]; omega), List.append_assoc]
      rfl
  | succ d ih =>
    intro j hd h0
    have hj : j < 4 := by omega
    have hm : (rd (nums p) j) ∈ nums p := by
      unfold rd
      rw [List.getD_eq_getElem?_getD, List.getElem?_eq_getElem (show j.toNat < (nums p).length by omega)]
      exact List.getElem_mem _
    have ht : (nums p).take (j + 1).toNat = (nums p).take j.toNat ++ [rd (nums p) j] := by
      rw [show (j + 1).toNat = j.toNat + 1 from by omega, List.take_succ_eq_append_getElem (by omega)]
      congr 2
      simp [rd, List.getD_eq_getElem?_getD, List.getElem?_eq_getElem (show j.toNat < (nums p).length by omega)]
    have hs := ih (j + 1) (by omega) (by omega)
    rw [ht, List.flatMap_append] at hs
    have e1 : ([rd (nums p) j] : List Int).flatMap intB = intB (rd (nums p) j) := by simp
    rw [e1, ← List.append_assoc] at hs
    have hb1 := hb j.toNat
    have hu := intB_len (rd (nums p) j)
    refine Ev.step (f := fun k => (skymosaicref02_Int.f k (rd (nums p) j)).bind fun t382 => (if (cs0 ++ ((nums p).take j.toNat).flatMap intB).length + t382.length < 140737488355328 then (skymosaicref36_Encode.l1 k x0 ((cs0 ++ ((nums p).take j.toNat).flatMap intB) ++ t382) i (nums p) (wrap64 (j + 1)) p.f0 p.f1 p.f2 p.f3.f0 p.f3.f1 p.f3.f2 p.f3.f3 p.f4 p.f5) else (none))) (fun k => ?_) ?_
    · conv => lhs; unfold skymosaicref36_Encode.l1
      rw [if_pos hj, if_pos h0, if_pos (by omega)]
    · refine Ev.bind (rint_ends _ (hw.2.2.1 _ hm)) ?_
      refine Ev.congr (fun k => ?_) hs
      rw [if_pos (by rw [List.length_append]; omega), w64 (by omega)]
theorem rd74_map (l : List S80) (i : Int) (h0 : 0 ≤ i) (h : i < l.length) : rd_T74 (l.map conv) i = conv (rd_T80 l i) := by
  simp [rd_T74, rd_T80, List.getD_eq_getElem?_getD, List.getElem?_eq_getElem (show i.toNat < l.length by omega)]
theorem renc_loop (l : List S80) (hl : l.length ≤ 1000) (hw : ∀ p ∈ l, wfP p) : ∀ (d : Nat) (i : Int) (cs : List Int), (l.length : Int) - i = d → 0 ≤ i → (cs.length : Int) ≤ 10 + 70 * i →
    Ev (fun k => skymosaicref36_Encode.l0 k (l.map conv) cs i) (cs ++ (l.drop i.toNat).flatMap pieceB) := by
  intro d
  induction d with
  | zero =>
    intro i cs hd h0 hc
    rw [List.drop_eq_nil_of_le (by omega)]
    refine Ev.step (f := fun _ => some (cs ++ [].flatMap pieceB)) (fun k => ?_) (Ev.now _)
    conv => lhs; unfold skymosaicref36_Encode.l0
    rw [if_neg (by simp; omega)]
    simp
  | succ d ih =>
    intro i cs hd h0 hc
    have hlt : i < (l.length : Int) := by omega
    obtain ⟨p, hp⟩ : ∃ p, rd_T80 l i = p := ⟨_, rfl⟩
    have hd2 := drop_rd80 l i h0 hlt
    rw [hp] at hd2
    have hm : p ∈ l := List.mem_of_mem_drop (by rw [hd2]; exact List.mem_cons_self)
    have hwp := hw p hm
    rw [hd2, List.flatMap_cons]
    have h74 := rd74_map l i h0 hlt
    rw [hp] at h74
    have u1 := intB_len p.f2
    have u2 := intB_len p.f3.f0
    have hpl := pieceB_len p
    have next := ih (i + 1) (cs ++ pieceB p) (by omega) (by omega) (by rw [List.length_append]; omega)
    rw [List.append_assoc] at next
    have hcl : cs.length ≤ 100000 := by omega
    refine Ev.step (f := fun k => (skymosaicref02_Int.f k p.f2).bind fun t366 => (if cs.length + t366.length < 140737488355328 then ((some (cs ++ t366 : List Int)).bind fun y369 => ((skymosaicref02_Int.f k p.f3.f0).bind fun t372 => (if y369.length + t372.length < 140737488355328 then ((some (y369 ++ t372 : List Int)).bind fun y375 => (if p.f3.f0 = (-1) then (skymosaicref36_Encode.l0 k (l.map conv) y375 (wrap64 (i + 1))) else (skymosaicref36_Encode.l1 k (l.map conv) y375 i (nums p) 0 p.f0 p.f1 p.f2 p.f3.f0 p.f3.f1 p.f3.f2 p.f3.f3 p.f4 p.f5))) else (none)))) else (none))) (fun k => ?_) ?_
    · conv => lhs; unfold skymosaicref36_Encode.l0
      rw [if_pos (by simp; omega), if_pos h0, h74]
      rfl
    · refine Ev.bind (rint_ends _ hwp.1) ?_
      refine Ev.congr (f := fun k => (skymosaicref02_Int.f k p.f3.f0).bind fun t372 => (if (cs ++ intB p.f2).length + t372.length < 140737488355328 then ((some ((cs ++ intB p.f2) ++ t372 : List Int)).bind fun y375 => (if p.f3.f0 = (-1) then (skymosaicref36_Encode.l0 k (l.map conv) y375 (wrap64 (i + 1))) else (skymosaicref36_Encode.l1 k (l.map conv) y375 i (nums p) 0 p.f0 p.f1 p.f2 p.f3.f0 p.f3.f1 p.f3.f2 p.f3.f3 p.f4 p.f5))) else (none))) (fun k => ?_) ?_
      · rw [if_pos (by omega)]; rfl
      · refine Ev.bind (rint_ends _ hwp.2.1) ?_
        by_cases hn : p.f3.f0 = -1
        · have hpb : cs ++ pieceB p = cs ++ intB p.f2 ++ intB p.f3.f0 := by unfold pieceB; rw [if_pos (by omega)]; simp
          rw [hpb] at next
          refine Ev.congr (f := fun k => skymosaicref36_Encode.l0 k (l.map conv) (cs ++ intB p.f2 ++ intB p.f3.f0) (i + 1)) (fun k => ?_) next
          rw [if_pos (by rw [List.length_append]; omega)]
          simp only [Option.bind_some]
          rw [if_pos hn, w64 (by omega)]
        · have hpb : cs ++ pieceB p = cs ++ intB p.f2 ++ intB p.f3.f0 ++ tailB p := by unfold pieceB; rw [if_neg (fun h => hn (hwp.2.2.2.2.1 h))]; simp
          rw [hpb] at next
          have hn2 := renc_nums (l.map conv) i p hwp _ (cs ++ intB p.f2 ++ intB p.f3.f0) (by rw [List.length_append, List.length_append]; omega) (by rw [w64 (by omega)]; exact next) 4 0 (by omega) (by omega)
          refine Ev.congr (f := fun k => skymosaicref36_Encode.l1 k (l.map conv) (cs ++ intB p.f2 ++ intB p.f3.f0 ++ ((nums p).take (0 : Int).toNat).flatMap intB) i (nums p) 0 p.f0 p.f1 p.f2 p.f3.f0 p.f3.f1 p.f3.f2 p.f3.f3 p.f4 p.f5) (fun k => ?_) hn2
          rw [if_pos (by rw [List.length_append]; omega)]
          simp only [Option.bind_some]
          rw [if_neg hn]
          simp
theorem renc_ends (l : List S80) (hl : l.length ≤ 1000) (hw : ∀ p ∈ l, wfP p) : Ev (fun k => skymosaicref36_Encode.f k (l.map conv)) (encB l) := by
  have h := renc_loop l hl hw l.length 0 (intB (l.length : Int)) (by omega) (by omega) (by have := intB_len (l.length : Int); omega)
  refine Ev.congr (f := fun k => (skymosaicref02_Int.f k (l.length : Int)).bind fun t361 => (skymosaicref36_Encode.l0 k (l.map conv) t361 0)) (fun k => ?_) ?_
  · unfold skymosaicref36_Encode.f
    rw [List.length_map]
  · refine Ev.bind (rint_ends _ ⟨by omega, by omega⟩) ?_
    simpa [encB] using h
end Go.Proofs.Ytgmbjgddelcceaa.P
