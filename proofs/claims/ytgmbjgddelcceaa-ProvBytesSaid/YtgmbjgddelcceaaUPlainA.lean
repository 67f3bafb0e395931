import Derived.Test.YtgmbjgddelcceaaUPx4
import Derived.Test.YtgmbjgddelcceaaUGivenF
set_option linter.unusedVariables false
set_option linter.unusedSimpArgs false
namespace Go.Proofs.Ytgmbjgddelcceaa.P
open Go.RowKit Go.Proofs.YtgmbjgddelcceaaW.PrintWords Go.Proofs.YtgmbjgddelcceaaW.PrintLast
theorem wfI {x : Int} (h : (Lit.int .i64 x).wf = true) : -9223372036854775808 ≤ x ∧ x ≤ 9223372036854775807 := by
  simp [Lit.wf, IntKind.min, IntKind.max, IntKind.signed, IntKind.bits] at h
  omega
theorem w64 {x : Int} (h : -9223372036854775808 ≤ x ∧ x ≤ 9223372036854775807) : wrap64 x = x := by unfold wrap64; omega
theorem tmod_nn {a b : Int} (ha : 0 ≤ a) (hb : 0 < b) : Int.tmod a b = a % b ∧ 0 ≤ Int.tmod a b ∧ Int.tmod a b < b := by
  rw [Int.tmod_eq_emod_of_nonneg ha]
  exact ⟨rfl, Int.emod_nonneg _ (by omega), Int.emod_lt_of_pos _ hb⟩
theorem tdiv_nn {a b : Int} (ha : 0 ≤ a) (hb : 0 < b) : Int.tdiv a b = a / b := by
  exact Int.tdiv_eq_ediv_of_nonneg ha
theorem around_some (n most : Int) (hn : (Lit.int .i64 n).wf = true) (hm : 1 ≤ most) (hm2 : most ≤ 9223372036854775807) : ∃ r, skymosaicref01_Around.f n most = some r ∧ 0 ≤ r ∧ r < most := by
  have h := wfI hn
  unfold skymosaicref01_Around.f
  by_cases hneg : n < 0
  · rw [if_pos hneg, if_neg (by omega), w64 (x := n + 1) (by omega), w64 (by omega)]
    have := tmod_nn (a := -(n + 1)) (b := most) (by omega) (by omega)
    exact ⟨_, rfl, this.2.1, this.2.2⟩
  · rw [if_neg hneg, if_neg (by omega)]
    have := tmod_nn (a := n) (b := most) (by omega) (by omega)
    exact ⟨_, rfl, this.2.1, this.2.2⟩
theorem rd_wf {l : List Int} (hl : ∀ x ∈ l, (Lit.int .i64 x).wf = true) (i : Int) (h0 : 0 ≤ i) (h : i < l.length) : (Lit.int .i64 (rd l i)).wf = true := by
  unfold rd
  rw [List.getD_eq_getElem?_getD, List.getElem?_eq_getElem (show i.toNat < l.length by omega)]
  exact hl _ (List.getElem_mem _)
theorem pick_some (l : List Int) (i : Int) (hl : ∀ x ∈ l, (Lit.int .i64 x).wf = true) : ∃ n, skymosaicref01_Pick.f l i 1048576 = some n ∧ 0 ≤ n ∧ n < 1048576 := by
  unfold skymosaicref01_Pick.f
  by_cases h0 : i < 0
  · rw [if_pos h0]; exact ⟨0, rfl, by omega, by omega⟩
  · rw [if_neg h0]
    by_cases h1 : i ≥ (l.length : Int)
    · rw [if_pos h1]; exact ⟨0, rfl, by omega, by omega⟩
    · rw [if_neg h1, if_pos (by omega), if_pos (by omega)]
      obtain ⟨r, hr, h2, h3⟩ := around_some (rd l i) 1048576 (rd_wf hl i (by omega) (by omega)) (by omega) (by omega)
      exact ⟨r, by rw [hr]; rfl, h2, h3⟩
/-- A run's state: the source, its steps, how far it has come. -/
def RunOk (x7 x8 x9 x10 sc row col par : Int) : Prop :=
  0 ≤ x10 ∧ x9 ≤ 16 ∧ ((sc = -1 ∧ row = 0 ∧ col = 0 ∧ par = 0 ∧ x7 = 0 ∧ x8 = 0) ∨ (0 ≤ sc ∧ 16 - x10 ≤ row ∧ row + (16 - x10) < 4096 ∧ 0 ≤ col ∧ col + 2 * (16 - x10) < 4096 ∧ -1 ≤ x7 ∧ x7 ≤ 1 ∧ 0 ≤ x8 ∧ x8 ≤ 2))
theorem run_good {x7 x8 x9 x10 sc row col par : Int} (h : RunOk x7 x8 x9 x10 sc row col par) (hlt : x10 < x9) : badS ⟨sc, row, col, par⟩ = false := by
  obtain ⟨h0, h9, h | h⟩ := h
  · obtain ⟨rfl, rfl, rfl, rfl, _⟩ := h
    rfl
  · unfold badS validB inSide
    have e1 : decide (0 ≤ sc) = true := decide_eq_true (by omega)
    have e2 : decide (0 ≤ row) = true := decide_eq_true (by omega)
    have e3 : decide (row < 4096) = true := decide_eq_true (by omega)
    have e4 : decide (0 ≤ col) = true := decide_eq_true (by omega)
    have e5 : decide (col < 4096) = true := decide_eq_true (by omega)
    simp only [e1, e2, e3, e4, e5]; simp
def SrcOk (r : List S71) : Prop := r.length = 256 ∧ r.any badS = false
theorem l1_ends (x0 : List Int) (L : Nat) (hx : ∀ (x3 : List S71) (x4 : Int), L ≤ x3.length → x3.length ≤ 256 → x3.any badS = false → 0 ≤ x4 → x4 ≤ x3.length → ∃ r, Ev (fun k => skymosaicref36_Sources.l0 k x0 x3 x4) r ∧ SrcOk r) :
    ∀ (d : Nat) (x3 : List S71) (x4 x7 x8 x9 x10 sc row col par : Int), 16 - x10 = d → L ≤ x3.length → x3.length ≤ 256 → x3.any badS = false → 0 ≤ x4 → x4 + 1 ≤ x3.length → RunOk x7 x8 x9 x10 sc row col par →
      ∃ r, Ev (fun k => skymosaicref36_Sources.l1 k x0 x3 x4 x7 x8 x9 x10 sc row col par) r ∧ SrcOk r := by
  intro d
  induction d with
  | zero =>
    intro x3 x4 x7 x8 x9 x10 sc row col par hd hL h256 hg h40 h41 hrun
    obtain ⟨r, hr, ho⟩ := hx x3 (x4 + 1) hL h256 hg (by omega) h41
    refine ⟨r, Ev.step (f := fun k => skymosaicref36_Sources.l0 k x0 x3 (x4 + 1)) (fun k => ?_) hr, ho⟩
    unfold skymosaicref36_Sources.l1
    rw [if_neg (by have := hrun.2.1; omega), w64 (by omega)]
  | succ d ih =>
    intro x3 x4 x7 x8 x9 x10 sc row col par hd hL h256 hg h40 h41 hrun
    by_cases h9 : x10 < x9
    · by_cases hl : (x3.length : Int) < 256
      · have hr2 : RunOk x7 x8 x9 (x10 + 1) sc (row + x7) (col + x8) par := by
          obtain ⟨h0, h9, h | h⟩ := hrun
          · obtain ⟨e1, e2, e3, e4, e5, e6⟩ := h
            exact ⟨by omega, h9, .inl ⟨e1, by omega, by omega, e4, e5, e6⟩⟩
          · exact ⟨by omega, h9, .inr ⟨h.1, by omega, by omega, by omega, by omega, by omega, by omega, by omega, by omega⟩⟩
        obtain ⟨r, hr, ho⟩ := ih (x3 ++ [⟨sc, row, col, par⟩]) x4 x7 x8 x9 (x10 + 1) sc (row + x7) (col + x8) par (by omega) (by simp; omega) (by simp; omega)
          (by rw [List.any_append, hg]; simp [run_good hrun h9]) h40 (by simp; omega) hr2
        refine ⟨r, Ev.step (f := fun k => skymosaicref36_Sources.l1 k x0 (x3 ++ [⟨sc, row, col, par⟩]) x4 x7 x8 x9 (x10 + 1) sc (row + x7) (col + x8) par) (fun k => ?_) hr, ho⟩
        have hb : (row + x7 ≤ 5000 ∧ -5000 ≤ row + x7) ∧ (col + x8 ≤ 5000 ∧ -5000 ≤ col + x8) := by
          obtain ⟨h0, _, h | h⟩ := hrun <;> omega
        have h10 := hrun.1
        have h99 := hrun.2.1
        conv => lhs; unfold skymosaicref36_Sources.l1
        rw [if_pos h9, if_pos hl, if_pos (by omega)]
        simp only [skymosaicref36_next.f, Option.bind_some]
        rw [w64 (x := row + x7) (by omega), w64 (x := col + x8) (by omega), w64 (x := x10 + 1) (by omega)]
      · obtain ⟨r, hr, ho⟩ := hx x3 (x4 + 1) hL h256 hg (by omega) h41
        refine ⟨r, Ev.step (f := fun k => skymosaicref36_Sources.l0 k x0 x3 (x4 + 1)) (fun k => ?_) hr, ho⟩
        unfold skymosaicref36_Sources.l1
        rw [if_pos h9, if_neg hl, w64 (by omega)]
    · obtain ⟨r, hr, ho⟩ := hx x3 (x4 + 1) hL h256 hg (by omega) h41
      refine ⟨r, Ev.step (f := fun k => skymosaicref36_Sources.l0 k x0 x3 (x4 + 1)) (fun k => ?_) hr, ho⟩
      unfold skymosaicref36_Sources.l1
      rw [if_neg h9, w64 (by omega)]
theorem sources_loop (x0 : List Int) (hm : x0.length ≤ 9223372036854775806) (hl : ∀ x ∈ x0, (Lit.int .i64 x).wf = true) : ∀ (d : Nat) (x3 : List S71) (x4 : Int), 256 - x3.length ≤ d → x3.length ≤ 256 → x3.any badS = false → 0 ≤ x4 → x4 ≤ x3.length →
    ∃ r, Ev (fun k => skymosaicref36_Sources.l0 k x0 x3 x4) r ∧ SrcOk r := by
  have hend : ∀ (x3 : List S71) (x4 : Int), x3.length = 256 → x3.any badS = false → ∃ r, Ev (fun k => skymosaicref36_Sources.l0 k x0 x3 x4) r ∧ SrcOk r := by
    intro x3 x4 h h2
    refine ⟨x3, Ev.step (f := fun _ => some x3) (fun k => ?_) (Ev.now _), h, h2⟩
    unfold skymosaicref36_Sources.l0
    rw [if_neg (by omega)]
  intro d
  induction d with
  | zero => intro x3 x4 hd h256 hg h40 h41; exact hend x3 x4 (by omega) hg
  | succ d ih =>
    intro x3 x4 hd h256 hg h40 h41
    by_cases hlt : (x3.length : Int) < 256
    · obtain ⟨n, hn, hn0, hn1⟩ := pick_some x0 (Int.tmod x4 (wrap64 ((x0.length : Int) + 1))) hl
      have e4 := tmod_nn (a := n) (b := 4) hn0 (by omega)
      -- one run, from its first pixel on
      have run : ∀ (x7 x8 x9 sc row col par : Int), 1 ≤ x9 → RunOk x7 x8 x9 0 sc row col par → ∃ r, Ev (fun k => skymosaicref36_Sources.l1 k x0 x3 x4 x7 x8 x9 0 sc row col par) r ∧ SrcOk r := by
        intro x7 x8 x9 sc row col par h9 hrun
        have hr2 : RunOk x7 x8 x9 1 sc (row + x7) (col + x8) par := by
          obtain ⟨h0, h9, h | h⟩ := hrun
          · obtain ⟨e1, e2, e3, e4, e5, e6⟩ := h
            exact ⟨by omega, h9, .inl ⟨e1, by omega, by omega, e4, e5, e6⟩⟩
          · exact ⟨by omega, h9, .inr ⟨h.1, by omega, by omega, by omega, by omega, by omega, by omega, by omega, by omega⟩⟩
        obtain ⟨r, hr, ho⟩ := l1_ends x0 (x3.length + 1) (fun y3 y4 h1 h2 h3 h4 h5 => ih y3 y4 (by omega) h2 h3 h4 h5) 15 (x3 ++ [⟨sc, row, col, par⟩]) x4 x7 x8 x9 1 sc (row + x7) (col + x8) par (by omega) (by simp) (by simp; omega)
          (by rw [List.any_append, hg]; simp [run_good hrun (by omega)]) h40 (by simp; omega) hr2
        refine ⟨r, Ev.step (f := fun k => skymosaicref36_Sources.l1 k x0 (x3 ++ [⟨sc, row, col, par⟩]) x4 x7 x8 x9 1 sc (row + x7) (col + x8) par) (fun k => ?_) hr, ho⟩
        have hb : (row + x7 ≤ 5000 ∧ -5000 ≤ row + x7) ∧ (col + x8 ≤ 5000 ∧ -5000 ≤ col + x8) := by
          obtain ⟨h0, _, h | h⟩ := hrun <;> omega
        conv => lhs; unfold skymosaicref36_Sources.l1
        rw [if_pos (by omega), if_pos hlt, if_pos (by omega)]
        simp only [skymosaicref36_next.f, Option.bind_some]
        rw [w64 (x := row + x7) (by omega), w64 (x := col + x8) (by omega), w64 (x := (0 : Int) + 1) (by omega)]
        rfl
      have h128 : Int.tdiv n 128 = n / 128 := tdiv_nn hn0 (by omega)
      have e16 := tmod_nn (a := wrap64 (wrap64 (Int.tdiv n 128) + x4)) (b := 16) (by rw [h128, w64 (x := n / 128) (by omega), w64 (by omega)]; omega) (by omega)
      have h9 : ∃ x9 : Int, wrap64 (1 + (Int.tmod (wrap64 ((wrap64 (Int.tdiv n 128)) + x4)) 16)) = x9 ∧ 1 ≤ x9 ∧ x9 ≤ 16 := by
        refine ⟨_, rfl, ?_⟩
        rw [w64 (by omega)]; omega
      obtain ⟨x9, hx9, h91, h92⟩ := h9
      have jstep : ∀ (x7 x8 sc row col par : Int), RunOk x7 x8 x9 0 sc row col par → ∃ r, Ev (fun k => skymosaicref36_Sources.j1 k x0 x3 x4 n x7 x8 sc row col par) r ∧ SrcOk r := by
        intro x7 x8 sc row col par hrun
        obtain ⟨r, hr, ho⟩ := run x7 x8 x9 sc row col par h91 hrun
        refine ⟨r, Ev.step (f := fun k => skymosaicref36_Sources.l1 k x0 x3 x4 x7 x8 x9 0 sc row col par) (fun k => ?_) hr, ho⟩
        conv => lhs; unfold skymosaicref36_Sources.j1
        rw [hx9]
      have hsc : wrap64 (Int.tmod n 4 - 1) = Int.tmod n 4 - 1 := w64 (by omega)
      by_cases hs : wrap64 ((Int.tmod n 4) - 1) ≥ 0
      · have d16 : Int.tdiv n 16 = n / 16 := tdiv_nn hn0 (by omega)
        have d48 : Int.tdiv n 48 = n / 48 := tdiv_nn hn0 (by omega)
        have d4 : Int.tdiv n 4 = n / 4 := tdiv_nn hn0 (by omega)
        have d200 : Int.tdiv n 200 = n / 200 := tdiv_nn hn0 (by omega)
        have m3 := tmod_nn (a := n / 16) (b := 3) (by omega) (by omega)
        have m3b := tmod_nn (a := n / 48) (b := 3) (by omega) (by omega)
        have m50 := tmod_nn (a := n / 4) (b := 50) (by omega) (by omega)
        have m50b := tmod_nn (a := n / 200) (b := 50) (by omega) (by omega)
        obtain ⟨r, hr, ho⟩ := jstep (wrap64 ((Int.tmod (wrap64 (Int.tdiv n 16)) 3) - 1)) (Int.tmod (wrap64 (Int.tdiv n 48)) 3) (wrap64 ((Int.tmod n 4) - 1)) (wrap64 (40 + (Int.tmod (wrap64 (Int.tdiv n 4)) 50))) (wrap64 (4000 + (Int.tmod (wrap64 (Int.tdiv n 200)) 50))) (IntKind.u64.wrap (Int.tmod (wrap64 (Int.tdiv n 7)) 2))
          (by
            rw [d16, d48, d4, d200, w64 (x := n / 16) (by omega), w64 (x := n / 48) (by omega), w64 (x := n / 4) (by omega), w64 (x := n / 200) (by omega)]
            rw [w64 (x := Int.tmod (n / 16) 3 - 1) (by omega), w64 (x := 40 + Int.tmod (n / 4) 50) (by omega), w64 (x := 4000 + Int.tmod (n / 200) 50) (by omega)]
            exact ⟨by omega, h92, .inr ⟨hs, by omega, by omega, by omega, by omega, by omega, by omega, by omega, by omega⟩⟩)
        refine ⟨r, Ev.step (f := fun k => skymosaicref36_Sources.j1 k x0 x3 x4 n (wrap64 ((Int.tmod (wrap64 (Int.tdiv n 16)) 3) - 1)) (Int.tmod (wrap64 (Int.tdiv n 48)) 3) (wrap64 ((Int.tmod n 4) - 1)) (wrap64 (40 + (Int.tmod (wrap64 (Int.tdiv n 4)) 50))) (wrap64 (4000 + (Int.tmod (wrap64 (Int.tdiv n 200)) 50))) (IntKind.u64.wrap (Int.tmod (wrap64 (Int.tdiv n 7)) 2))) (fun k => ?_) hr, ho⟩
        conv => lhs; unfold skymosaicref36_Sources.l0
        rw [if_pos hlt, if_neg (by rw [w64 (by omega)]; omega), hn]
        simp only [Option.bind_some]
        rw [if_pos hs]
      · have hsm : wrap64 ((Int.tmod n 4) - 1) = -1 := by omega
        obtain ⟨r, hr, ho⟩ := jstep 0 0 (wrap64 ((Int.tmod n 4) - 1)) 0 0 0 (by rw [hsm]; exact ⟨by omega, h92, .inl ⟨rfl, rfl, rfl, rfl, rfl, rfl⟩⟩)
        refine ⟨r, Ev.step (f := fun k => skymosaicref36_Sources.j1 k x0 x3 x4 n 0 0 (wrap64 ((Int.tmod n 4) - 1)) 0 0 0) (fun k => ?_) hr, ho⟩
        conv => lhs; unfold skymosaicref36_Sources.l0
        rw [if_pos hlt, if_neg (by rw [w64 (by omega)]; omega), hn]
        simp only [Option.bind_some]
        rw [if_neg hs]
    · exact hend x3 x4 (by omega) hg
theorem sources_ends (x0 : List Int) (hm : x0.length ≤ 9223372036854775806) (hl : ∀ x ∈ x0, (Lit.int .i64 x).wf = true) : ∃ r, Ev (fun k => skymosaicref36_Sources.f k x0) r ∧ SrcOk r :=
  sources_loop x0 hm hl 256 [] 0 (by simp) (by simp) rfl (by omega) (by simp)
end Go.Proofs.Ytgmbjgddelcceaa.P
