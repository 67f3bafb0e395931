import Derived.Shelf.SlMaps.Clone
import Derived.Test.YtcbkcgnigncahaaDGivenYb
import Derived.Test.YtcbkcgnigncahaaDGivenV
namespace Go.Proofs.Ytcbkcgnigncahaa.P
open Go.RowKit Go.Maps Go.Proofs Go.Proofs.YtcbkcgnigncahaaW.PrintWords Go.Proofs.YtcbkcgnigncahaaW.PrintLast Go.Proofs.YtcbkcgnigncahaaW.PrintMore
attribute [local go_sem] max2_int min2_int max_two min_two max_three min_three max_four min_four
set_option linter.unusedVariables false
set_option linter.unusedSimpArgs false
def Try.clone61_ren : Go.Shelf.Ren := ⟨fun | 5 => 61 | 7 => 87 | n => n, fun | 23 => 76 | 25 => 9 | 3 => 80 | 4 => 4 | 20 => 20 | n => n, fun | n => n⟩
theorem Try.clone61 : Go.Proofs.SlLaysW.n5 Try.prog Try.clone61_ren := {
  mixed := by kernel_rfl
  f5 := ⟨Try.f61.name, by decide, Try.func61.trans (congrArg some (by kernel_rfl))⟩
  f7 := Try.func87.trans (congrArg some (by kernel_rfl))
  t4 := Try.underlying4
  a4 := Try.isAgg4
  z4 := Try.sizeOf4
  v4 := Try.zeroValue4
  t20 := Try.underlying20
  a20 := Try.isAgg20
  z20 := Try.sizeOf20
  v20 := Try.zeroValue20
  t23 := Try.underlying76
  a23 := Try.isAgg76
  z23 := Try.sizeOf76
  v23 := Try.zeroValue76 }
theorem clone61_calls (b n : Nat) (D : DataW Unit) (w : World) (hown : w.ownsMap Try.prog 9 lineR b n D) :
    Calls Try.prog 61 #[.map (some b)] w fun e w' => e = .returned (.map (some w.heap.size)) ∧ w'.ownsMap Try.prog 9 lineR w.heap.size n D ∧ Below w.heap.size w w' ∧ w.heap.size < w'.heap.size := by
  refine (AnyW.maps_Clone_owns Try.clone61 9 lineR b n D w hown).mono ?_
  rintro e w' ⟨rfl, h1, _, h2⟩
  exact ⟨rfl, h1, h2, h1.lt⟩
theorem cell_keepC {w w1 : World} {a : Addr} {v : Value} (h : w.cell? a = some v) (hb : Below w.heap.size w w1) : w1.cell? a = some v := by
  have hl : a.block < w.heap.size := by
    rcases Nat.lt_or_ge a.block w.heap.size with h0 | h0
    · exact h0
    · exfalso
      rw [World.cell?, Array.getElem?_eq_none h0] at h
      cases h
  rw [World.cell?, hb.block _ hl]
  rw [World.cell?] at h
  exact h
theorem LS.rowC {base g b n : Nat} {s : Ln} {W : World} {A : Option Addr} {c : Nat} (h : LS base g b n s W) (hc : W.cell? ⟨g, 1, none⟩ = some (.slice A s.V.length c)) : Kd.C k43 W A s.V.length s.V ∧ s.V.length ≤ c := by
  obtain ⟨_, _, ⟨v, h3, h4⟩, _⟩ := h
  have := blk_cell h3 1
  rw [hc] at this
  obtain rfl := Option.some.inj this
  exact ⟨(Kd.R_reads' h4).2.2, (Kd.R_reads' h4).2.1⟩
set_option maxHeartbeats 4000000 in
set_option maxRecDepth 100000 in
theorem copy_calls (base g b n : Nat) (s : Ln) (w : World) (h : LS base g b n s w) (hg : Good s) :
    Calls Try.prog 29 #[.pointer (some ⟨g, 0, none⟩)] w fun e w' => ∃ g2 b2, e = .returned (.pointer (some ⟨g2, 0, none⟩)) ∧ LS w.heap.size g2 b2 n s w' ∧ Below w.heap.size w w' ∧ Apart g b g2 b2 w' := by
  have HS := Aside0.mk h
  have hm := hg.most
  have hu78 := Try.underlying78
  obtain ⟨A, c, c0, c1, z1, x1, x2, x3, x4⟩ := h.cells
  clear h z1 x1 x2 x3 x4
  go_enter Try.func29, Try.ntmps29
  go_upto_region 1 with fail
  have HOW := Aside0.mk (show w.drew.ownsMap Try.prog 9 lineR b n s.D from (HS.out.below (below_drew1 (Below.refl _ _))).2.2.2)
  go_region_held3 (fun w' => w'.cell? ⟨g, 0, none⟩ = some (.map (some b)) ∧ w'.cell? ⟨g, 1, none⟩ = some (.slice A s.V.length c))
    (first | exact ⟨c0, c1⟩ | exact ⟨m0, m1⟩ | exact ⟨n0, n1⟩ | go_keep)
    (first
      | (go_at_call 61; (with_reducible refine (clone61_calls b n s.D w.drew HOW.out).mono ?_); rintro e w3 ⟨rfl, h1, h2, h3⟩; have hb3 := (below_drew1 (Below.refl w.heap.size w)).trans h2; have m0 := cell_keepC c0 hb3; have m1 := cell_keepC c1 hb3; have HM3 := Aside0.mk h1; have HB3 := Aside0.mk hb3; have HS3 := Aside0.mk (HS.out.below hb3); have HZ3 := Aside0.mk h3; have HRC := Aside0.mk (LS.rowC HS3.out m1); clear h1 h2 hb3)
      | (go_at_call 60; (with_reducible refine (cloneV_calls A c s.V w3 HRC.out.1 HRC.out.2 (by omega)).mono ?_); rintro e w4 ⟨v, rfl, h1, h2⟩; have n0 := cell_keepC m0 h2; have n1 := cell_keepC m1 h2; have HV4 := Aside0.mk h1; have HB4 := Aside0.mk h2; clear h1 h2; obtain ⟨A4, c4, rfl⟩ := Kd.R_slice HV4.out)
      | fail)
  go_wp2
  go_returns
  have hb4 := HB4.out
  have hs4 : w.heap.size < w4.heap.size := Nat.lt_of_lt_of_le HZ3.out hb4.size
  have hA : Below w4.heap.size w4 (w4.alloc (.cells #[.map (some w.heap.size), .slice A4 s.V.length c4] 78)) := below_alloc (Below.refl _ _) _
  have hall := below_step (below_step HB3.out hb4) hA
  have hlt := HS.out.lt
  have hltb := HS.out.ltb
  have hnew : (w4.alloc (.cells #[.map (some w.heap.size), .slice A4 s.V.length c4] 78)).heap[w4.heap.size]? = some (.cells #[.map (some w.heap.size), .slice A4 s.V.length c4] 78 (0, 0)) := blk_new w4 _
  refine ⟨w4.heap.size, w.heap.size, rfl, ⟨by omega, Nat.le_refl _, ⟨_, hnew, Kd.R_lower (Kd.R_below (Kd.R_mono (Kd.R_bound HV4.out) (fun k hk => ?_)) hA) HB3.out.size⟩, ?_⟩, hall, by omega, by omega, by omega, by omega, fun k h1 h2 => ?_⟩
  · have := hk.2.2.1
    omega
  · have hb := below_step hb4 hA
    exact HM3.out.kept (row := none) ⟨hb.os, hb.tape, hb.output, hb.size, fun k hk _ => hb.block k hk⟩ (by simp)
  · rw [vown_same (hall.block g hlt)] at h1
    rw [vown_of hnew] at h2
    obtain ⟨_, _, ⟨v, h3, h4⟩, _⟩ := HS.out
    rw [vown_of h3] at h1
    have e1 := Kd.R_lt h4 k h1
    have e2 := Kd.R_base HV4.out k h2
    have e3 := HB3.out.size
    omega
end Go.Proofs.Ytcbkcgnigncahaa.P
