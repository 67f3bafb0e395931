import Derived.Test.YtgmbjgddelcceaaUGivenA
namespace Go.Proofs.Ytgmbjgddelcceaa.P
open Go.RowKit Go.Proofs.YtgmbjgddelcceaaW.PrintWords Go.Proofs.YtgmbjgddelcceaaW.PrintLast Go.Proofs.YtgmbjgddelcceaaW.PrintMore
attribute [local go_sem] max2_int min2_int max_two min_two max_three min_three max_four min_four
attribute [local go_sem high] eqA71
set_option linter.unusedVariables false
set_option linter.unusedSimpArgs false
def badS (s : S71) : Bool := !validB s.f0 s.f1 s.f2 s.f3
def IdxPost (xs : List S71) (w : World) (e : Ending) (w' : World) : Prop := ∃ r : Int, e = .returned (.int .i64 r) ∧ (decide (0 ≤ r) = xs.any badS) ∧ Below w.heap.size w w'
theorem any_take_succ (xs : List S71) (i : Int) (h0 : 0 ≤ i) (h1 : i < xs.length) : (xs.take (i + 1).toNat).any badS = ((xs.take i.toNat).any badS || badS (rd_T71 xs i)) := by
  have e : (i + 1).toNat = i.toNat + 1 := by omega
  rw [e, List.take_succ_eq_append_getElem (by omega), List.any_append]
  simp [rd_T71, List.getD_eq_getElem?_getD, List.getElem?_eq_getElem (show i.toNat < xs.length by omega)]
theorem index_calls (A : Option Addr) (c : Nat) (xs : List S71) (w : World) (hr : Kd.C k71 w A xs.length xs) (hc : xs.length ≤ c) :
    Calls Try.prog 60 #[.slice A xs.length c, .func (.func 39) #[] #[]] w (IdxPost xs w) := by
  have hu71 := Try.underlying71
  have HR := Aside0.mk hr
  clear hr
  have HM := Aside0.mk HR.out.2.1
  go_enter Try.func60, Try.ntmps60
  go_wp2
  go_loopw [8] (fun v wr => ∃ i : Int, v = .int .i64 i ∧ Aside0 (0 ≤ i ∧ i ≤ xs.length ∧ (xs.take i.toNat).any badS = false) ∧ Aside0 (Below w.heap.size w wr)) (fun v _ => xs.length - (intOf v).toNat)
  case atStart => exact ⟨0, rfl, ⟨by omega, by omega, by simp⟩, ⟨Below.refl _ _⟩⟩
  case round =>
    obtain ⟨i, rfl, HI, HB⟩ := hrel
    have h0 := HI.out.1
    by_cases hlt : i < (xs.length : Int)
    · obtain ⟨ad, e, hx0, hx1, hx2, hx3⟩ := at_T71 (Kd.C_below HR.out HB.out) i h0 hlt
      cases e
      have hs := Aside0.mk (any_take_succ xs i h0 hlt)
      cases hbad : badS (rd_T71 xs i) with
      | true =>
        rw [hbad] at hs
        have hb2 : (!validB (rd_T71 xs i).f0 (rd_T71 xs i).f1 (rd_T71 xs i).f2 (rd_T71 xs i).f3) = true := hbad
        clear hbad
        go_wp2_with (go_at_call 39; refine (pack1_calls _ _ _ _ _).mono ?_; rintro e w' ⟨rfl, hb⟩)
        go_ret
        have hs := hs.out
        refine ⟨i, rfl, ?_, HB.out.trans (hb.mono HB.out.size)⟩
        have h5 : (xs.take (i + 1).toNat).any badS = true := by rw [hs]; simp
        have h6 : xs.any badS = true := by
          obtain ⟨y, hy, hb⟩ := List.any_eq_true.1 h5
          exact List.any_eq_true.2 ⟨y, List.mem_of_mem_take hy, hb⟩
        rw [h6]
        exact decide_eq_true h0
      | false =>
        rw [hbad] at hs
        have hb2 : (!validB (rd_T71 xs i).f0 (rd_T71 xs i).f1 (rd_T71 xs i).f2 (rd_T71 xs i).f3) = false := hbad
        clear hbad
        go_wp2_with (go_at_call 39; refine (pack1_calls _ _ _ _ _).mono ?_; rintro e w' ⟨rfl, hb⟩)
        go_roundw
        case rel =>
          have hs := hs.out
          have hw : wrap64 (i + 1) = i + 1 := by
            have := HM.out
            unfold wrap64; omega
          exact ⟨i + 1, by rw [hw], ⟨by omega, by omega, by rw [hs, HI.out.2.2]; rfl⟩, ⟨HB.out.trans (hb.mono HB.out.size)⟩⟩
        case measure =>
          have hw : wrap64 (i + 1) = i + 1 := by
            have := HM.out
            unfold wrap64; omega
          simp [intOf, hw]; omega
    · go_wp2
      go_ret
      refine ⟨-1, rfl, ?_, HB.out⟩
      have h7 := HI.out.2.2
      rw [List.take_of_length_le (by omega)] at h7
      rw [h7]; rfl
theorem contains_calls (A : Option Addr) (c : Nat) (xs : List S71) (w : World) (hr : Kd.C k71 w A xs.length xs) (hc : xs.length ≤ c) :
    Calls Try.prog 38 #[.slice A xs.length c, .func (.func 39) #[] #[]] w fun e w' => e = .returned (.bool (xs.any badS)) ∧ Below w.heap.size w w' := by
  go_enter Try.func38, Try.ntmps38
  go_wp2_with fail
  refine (index_calls A c xs _ hr hc).mono ?_
  rintro e w' ⟨r, rfl, hd, hb⟩
  have Hd := Aside0.mk hd
  clear hd
  go_wp2
  go_ret
  refine ⟨?_, hb⟩
  rw [← Hd.out]
  rfl
end Go.Proofs.Ytgmbjgddelcceaa.P
