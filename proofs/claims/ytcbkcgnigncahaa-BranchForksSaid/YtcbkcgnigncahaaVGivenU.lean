import Derived.Test.YtcbkcgnigncahaaVGivenS
import Derived.Test.YtcbkcgnigncahaaVPlainC
import Derived.Test.YtcbkcgnigncahaaVPlainD
import Derived.Deep.QuietTactic
import Derived.Deep.RegionLaw
import Derived.Deep.RegionHeld3
namespace Go.Proofs.Ytcbkcgnigncahaa.P
open Go.RowKit Go.Maps Go.Proofs.YtcbkcgnigncahaaW.PrintWords Go.Proofs.YtcbkcgnigncahaaW.PrintLast Go.Proofs.YtcbkcgnigncahaaW.PrintMore
attribute [local go_sem] max2_int min2_int max_two min_two max_three min_three max_four min_four
set_option linter.unusedVariables false
set_option linter.unusedSimpArgs false
/-- A write into a block of another type leaves a line as it is. -/
theorem LS.keep {base g b n : Nat} {s : Ln} {W W1 : World} {row : Option Nat} (h : LS base g b n s W) (hg : W.grownBy W1 row) (hr : ∀ r, row = some r → ∃ cs t, W.heap[r]? = some (Obj.cells cs t (0, 0)) ∧ t ≠ 78 ∧ t ≠ 43) : LS base g b n s W1 := by
  obtain ⟨h1, h2, ⟨v, h3, h4⟩, h5⟩ := h
  have hne : ∀ (k : Nat) (cs : Array Value) (t : TypeId), W.heap[k]? = some (Obj.cells cs t (0, 0)) → (t = 78 ∨ t = 43) → some k ≠ row := by
    intro k cs t hk ht e
    obtain ⟨cs', t', hc, n1, n2⟩ := hr k e.symm
    rw [hk] at hc
    injection hc with hc
    injection hc with _ hc
    subst hc
    rcases ht with ht | ht
    · exact n1 ht
    · exact n2 ht
  have hb : some b ≠ row := by
    intro e
    obtain ⟨cs', t', hc, _⟩ := hr b e.symm
    obtain ⟨es, clock, hb, _⟩ := h5
    rw [hb] at hc
    cases hc
  refine ⟨h1, h2, ⟨v, blk_grown h3 hg (hne g _ _ h3 (.inl rfl)), Kd.R_mono (Kd.R_grown (Kd.R_bound h4) hg (fun k hk => ?_)) (fun k hk => hk.1)⟩, h5.kept hg hb⟩
  obtain ⟨_, _, _, q, hq, cells, hc⟩ := hk
  have hE : k43.E = [] := rfl
  rw [hE] at hq
  have := List.mem_singleton.1 hq
  subst this
  exact hne k _ _ hc (.inr rfl)
/-- The lines that the first i operations lead to. -/
def runL (s : Ln) (ops : List S38) : Ln := ops.foldl (fun s o => (doF s o).2.2) s
theorem Good.run {s : Ln} (h : Good s) (ops : List S38) : Good (runL s ops) := by
  unfold runL
  induction ops generalizing s with
  | nil => exact h
  | cons o ops ih => exact ih (h.do_ o)
theorem runL_snoc (s : Ln) (ops : List S38) (o : S38) : runL s (ops ++ [o]) = (doF (runL s ops) o).2.2 := by unfold runL; rw [List.foldl_append]; rfl
theorem take_rd38 (ops : List S38) (i : Nat) (h : i < ops.length) : ops.take (i + 1) = ops.take i ++ [rd_T38 ops (i : Int)] := by
  rw [List.take_succ_eq_append_getElem h]
  unfold rd_T38
  rw [Int.toNat_natCast, List.getD_eq_getElem?_getD, List.getElem?_eq_getElem h]
  rfl
theorem mem_rd38 (ops : List S38) (i : Nat) (h : i < ops.length) : rd_T38 ops (i : Int) ∈ ops := by
  unfold rd_T38
  rw [Int.toNat_natCast, List.getD_eq_getElem?_getD, List.getElem?_eq_getElem h]
  exact List.getElem_mem h
theorem name_at {W : World} {base : Nat} {ok : Nat → Prop} {ad : Addr} {n c : Nat} {names : List ByteArray} (h : Kd.string.R 9 W base ok (.slice (some ad) n c) names) (j : Nat) (hj : j < names.length) : W.cell? (ad.add j) = some (.string (rdOf ByteArray.empty names (j : Int))) := by
  obtain ⟨ad', e, y0⟩ := Kd.at_string (Kd.R_reads' h).2.2 (j : Int) (by omega) (by omega)
  obtain rfl := Option.some.inj e
  rwa [Int.toNat_natCast] at y0
theorem int_at {W : World} {base : Nat} {ok : Nat → Prop} {ad : Addr} {n c : Nat} {xs : List Int} (h : (Kd.int .i64).R 3 W base ok (.slice (some ad) n c) xs) (j : Nat) (hj : j < xs.length) : W.cell? (ad.add j) = some (.int .i64 (rd xs (j : Int))) := by
  obtain ⟨ad', e, y0⟩ := Kd.at_int (Kd.R_reads' h).2.2 (j : Int) (by omega) (by omega)
  obtain rfl := Option.some.inj e
  rwa [Int.toNat_natCast] at y0
end Go.Proofs.Ytcbkcgnigncahaa.P
