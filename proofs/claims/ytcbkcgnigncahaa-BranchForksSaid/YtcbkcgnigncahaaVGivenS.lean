import Derived.Test.YtcbkcgnigncahaaVGivenS0
namespace Go.Proofs.Ytcbkcgnigncahaa.P
open Go.RowKit Go.Maps Go.Sort Go.Shelf Go.Proofs.YtcbkcgnigncahaaW.PrintWords Go.Proofs.YtcbkcgnigncahaaW.PrintLast Go.Proofs.YtcbkcgnigncahaaW.PrintMore
attribute [local go_sem] max2_int min2_int max_two min_two max_three min_three max_four min_four
set_option linter.unusedVariables false
set_option linter.unusedSimpArgs false
/-- The names of the branches, sorted. -/
def branchesF (s : Ln) : List ByteArray := ((strKeys s.D).mergeSort leB).map fun x => ⟨x.toArray⟩
theorem mem_branches {s : Ln} (h : Good s) {x : ByteArray} (hx : x ∈ branchesF s) : hasB s.D x = true := by
  unfold branchesF at hx
  obtain ⟨l, hl, rfl⟩ := List.mem_map.1 hx
  obtain ⟨es, he, hk⟩ := h.keyed
  have hl2 : l ∈ strKeys s.D := (List.mergeSort_perm _ _).mem_iff.1 hl
  rw [he] at hl2
  obtain ⟨p, hp, rfl⟩ := List.mem_map.1 hl2
  unfold hasB
  rw [he, has_eq, List.any_eq_true]
  refine ⟨p, hp, ?_⟩
  rw [List.any_eq_false] at hk
  have hs := hk p hp
  obtain ⟨a, b⟩ := p
  cases a with
  | string q => simp [keyB, strOf, Lit.sameKey]
  | _ => simp [isStr] at hs
theorem encs_of (xs : List (List UInt8)) : encs Value.string (xs.map fun x => (⟨x.toArray⟩ : ByteArray)) = xs.map encStr := by
  unfold encs
  rw [List.map_map]
  rfl
set_option maxHeartbeats 4000000 in
theorem branches_calls (base g b m : Nat) (s : Ln) (w : World) (hs0 : LS base g b m s w) (hg : Good s) :
    Calls Try.prog 17 #[.pointer (some ⟨g, 0, none⟩)] w fun e w' => ∃ v, e = .returned v ∧ Kd.string.R 9 w' w.heap.size (fun _ => True) v (branchesF s) ∧ Below w.heap.size w w' := by
  have HOW := Aside0.mk hs0.2.2.2
  have hf := hg.few
  obtain ⟨A, c, c0, c1, z1, x1, x2, x3, x4⟩ := hs0.cells
  clear x1 x2 x3 x4 c1 z1 hs0 hg
  go_enter Try.func17, Try.ntmps17
  go_wp2_with (first
    | (go_at_call 45; refine (callsIn_wide.1 (Try.maps_Keys_45 _ _)).mono ?_; rintro e w' ⟨rfl, rfl⟩)
    | (go_at_call 44; refine (callsIn_wide.1 (Try.slices_Sorted_keys_44_45 b m s.D _ w HOW.out (by unfold maxLen; omega) (by omega))).mono ?_; rintro e w' ⟨v, ss, rfl, hS, hrow, hnil, hb⟩; have HR := Aside0.mk hrow; have HB := Aside0.mk hb; have HS := Aside0.mk hS; clear hS hrow hnil hb)
    | fail)
  go_returns
  refine ⟨v, rfl, ?_, below_step (below_alloc (Below.refl _ _) _) HB.out⟩
  have hp : ss.mergeSort leB = (strKeys s.D).mergeSort leB := mergeSort_of_perm HS.out
  have hlen : ss.length = (branchesF s).length := by unfold branchesF; rw [List.length_map, ← hp, List.length_mergeSort]
  have hr := HR.out
  have he : (ss.mergeSort (fun x y => decide (x ≤ y))).map encStr = encs Value.string (branchesF s) := by
    unfold branchesF
    rw [encs_of, ← hp]
  rw [hlen, he] at hr
  exact Kd.R_lower (Kd.R_of_own hr (fun _ _ => trivial)) (by simp)
end Go.Proofs.Ytcbkcgnigncahaa.P
