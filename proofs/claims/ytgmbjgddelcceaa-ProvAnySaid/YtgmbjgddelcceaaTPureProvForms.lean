import Derived.Test.YtgmbjgddelcceaaTPx20
import Derived.Test.YtgmbjgddelcceaaTPlainH
import Derived.Test.YtgmbjgddelcceaaTPureProvPacks
namespace Go.Proofs.Ytgmbjgddelcceaa.Pure
open Go.RowKit Go.Proofs.Ytgmbjgddelcceaa.P Go.Proofs.YtgmbjgddelcceaaW.PrintWords Go.Proofs.YtgmbjgddelcceaaW.PrintLast
def yOk (l : List S74) : Prop := ∀ p ∈ l, uOk p.f3
theorem rd74_mem (l : List S74) (i : Int) (h0 : 0 ≤ i) (h : i < l.length) : rd_T74 l i ∈ l := by
  rw [rd74_get l i h0 h]
  exact List.getElem_mem _
theorem set_ok {l : List S74} (h : yOk l) (n : Nat) {p : S74} (hp : uOk p.f3) : yOk (l.set n p) := by
  intro q hq
  rcases List.mem_or_eq_of_mem_set hq with hq | rfl
  · exact h q hq
  · exact hp
theorem bent_ok {l : List S74} (h : yOk l) (i c v : Int) (h0 : 0 ≤ i) (h1 : i < l.length) (hv : isI v) : yOk (bentF l i c v) ∧ (bentF l i c v).length ≤ l.length + 1 ∧ l.length ≤ (bentF l i c v).length + 1 := by
  have hp := h _ (rd74_mem l i h0 h1)
  unfold bentF
  split
  · exact ⟨set_ok h _ hp, by simp, by simp⟩
  split
  · exact ⟨set_ok h _ hp, by simp, by simp⟩
  split
  · exact ⟨set_ok h _ hp, by simp, by simp⟩
  split
  · exact ⟨set_ok h _ ⟨hp.1, hv⟩, by simp, by simp⟩
  split
  · exact ⟨set_ok h _ hp, by simp, by simp⟩
  split
  · exact ⟨set_ok h _ ⟨u64_ok v, hp.2⟩, by simp, by simp⟩
  split
  · exact ⟨set_ok h _ hp, by simp, by simp⟩
  split
  · exact ⟨set_ok h _ hp, by simp, by simp⟩
  split
  · refine ⟨fun q hq => ?_, by rw [List.length_append, List.length_take, List.length_drop]; omega, by rw [List.length_append, List.length_take, List.length_drop]; omega⟩
    rcases List.mem_append.1 hq with hq | hq
    · exact h q (List.mem_of_mem_take hq)
    · exact h q (List.mem_of_mem_drop hq)
  · refine ⟨fun q hq => ?_, by simp, by simp; omega⟩
    rcases List.mem_append.1 hq with hq | hq
    · exact h q hq
    · obtain rfl := List.mem_singleton.1 hq
      exact hp
theorem bent_some (l : List S74) (hl : 0 < l.length) (hl2 : l.length ≤ 1000) (a1 a2 v : Int) (w1 : (Lit.int .i64 a1).wf = true) (w2 : (Lit.int .i64 a2).wf = true) (hv : isI v) (hy : yOk l) :
    ∃ r, ref36_Bent.f l a1 a2 v = some r ∧ yOk r ∧ r.length ≤ l.length + 1 := by
  obtain ⟨i, hi, i0, i1⟩ := around_some a1 (l.length : Int) w1 (by omega) (by omega)
  obtain ⟨c, hc, c0, c1⟩ := around_some a2 10 w2 (by omega) (by omega)
  have hb := bent_ok hy i c v i0 (by omega) hv
  refine ⟨bentF l i c v, ?_, hb.1, hb.2.1⟩
  unfold ref36_Bent.f
  rw [hi, hc]
  simp only [Option.bind_some]
  rw [if_pos ⟨by omega, i0, by omega⟩]
end Go.Proofs.Ytgmbjgddelcceaa.Pure
