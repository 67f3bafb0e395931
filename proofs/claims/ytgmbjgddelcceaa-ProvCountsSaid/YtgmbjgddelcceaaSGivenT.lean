import Derived.Test.YtgmbjgddelcceaaSGivenS
import Derived.Test.YtgmbjgddelcceaaSPlainS
import Derived.Maps.OwnSet
import Derived.Carry
namespace Go.Proofs.Ytgmbjgddelcceaa.P
open Go.RowKit Go.Maps Go.Proofs.YtgmbjgddelcceaaW.PrintWords Go.Proofs.YtgmbjgddelcceaaW.PrintLast Go.Proofs.YtgmbjgddelcceaaW.PrintMore
attribute [local go_sem] max2_int min2_int max_two min_two max_three min_three max_four min_four
set_option linter.unusedVariables false
set_option linter.unusedSimpArgs false
def sceneK (p : S80) : Lit := .int .i64 p.f3.f0
def seenD (l : List S80) : DataW Unit := setOf (.lit (.bool true)) (l.map sceneK)
def keptD (l : List S80) : DataW Unit := (seenD l).del (.int .i64 (-1))
theorem kept_has (l : List S80) (x : Int) : has (keptD l) (.int .i64 x) = true ↔ (x ≠ -1 ∧ x ∈ l.map scOf) := by
  unfold keptD
  by_cases hx : x = -1
  · subst hx
    rw [has_del_same]; simp
  · have hne : (Lit.int .i64 x) ≠ .int .i64 (-1) := by intro e; injection e with _ e; exact hx e
    rw [has_del_other hne]
    unfold seenD
    rw [has_setOf _ _ _ (by intro y hy; obtain ⟨p, _, rfl⟩ := List.mem_map.1 hy; exact trivial), List.any_eq_true]
    constructor
    · rintro ⟨y, hy, hs⟩
      obtain ⟨p, hp, rfl⟩ := List.mem_map.1 hy
      refine ⟨hx, List.mem_map.2 ⟨p, hp, ?_⟩⟩
      simpa [sceneK, Lit.sameKey, scOf] using hs
    · rintro ⟨_, h⟩
      obtain ⟨p, hp, rfl⟩ := List.mem_map.1 h
      exact ⟨sceneK p, List.mem_map.2 ⟨p, hp, rfl⟩, by simp [sceneK, Lit.sameKey, scOf]⟩
theorem uniq_perm {w : World} {b n : Nat} {R : Value → Option (DataW Unit × List MemPlace)} (l : List S80) (hown : w.ownsMap Try.prog 3 R b n (keptD l)) : (uniqS l).Perm (intKeys (keptD l)) := by
  obtain ⟨es, hD, hpw, _⟩ := hown.entries (int_keyed Try.underlying3)
  obtain ⟨es', hD', hko⟩ := hown.keysOf
  obtain rfl : es = es' := by rw [hD] at hD'; simpa using hD'
  rw [hD]
  refine perm_intKeys hpw (fun p hp => by obtain ⟨v, hv⟩ := hko p hp; obtain ⟨x, _, hx, _⟩ := Maps.keyOf_i64 Try.underlying3 hv; exact ⟨x, hx⟩) (uniqI_nodup _) (fun x => ?_)
  rw [← hD, kept_has]
  exact uniqI_mem _ x
theorem seenD_step (l : List S80) (k : Nat) (h : k < l.length) : seenD (l.take (k + 1)) = (seenD (l.take k)).put (.int .i64 (rd_T80 l k).f3.f0) (.lit (.bool true)) := by
  have e : l.take (k + 1) = l.take k ++ [rd_T80 l k] := by
    rw [List.take_succ_eq_append_getElem h]
    simp [rd_T80, List.getD_eq_getElem?_getD, List.getElem?_eq_getElem h]
  rw [e]
  unfold seenD
  rw [List.map_append]
  exact setOf_snoc _ _ _
theorem rowInts {w : World} {base : Nat} {v : Value} {xs : List Int} (h : w.ownsRow base 3 1 v xs.length (xs.map encZ)) : Kd.R (Kd.int .i64) 3 w base (fun _ => True) v xs := by
  refine ⟨fun _ _ => trivial, xs.map encZ, h, ?_⟩
  refine ⟨by rw [List.length_map]; exact (Nat.mul_one _).symm, fun j p hj => ?_⟩
  have hjl : j < xs.length := (List.getElem?_eq_some_iff.1 hj).1
  have hp : xs[j] = p := (List.getElem?_eq_some_iff.1 hj).2
  have : ((xs.map encZ).drop (j * 1)).take 1 = [encZ p] := by
    rw [Nat.mul_one, List.drop_eq_getElem_cons (by simpa using hjl)]
    simp [hp]
  show Kd.M _ _ _ _ _ (((xs.map encZ).drop (j * 1)).take 1)
  rw [this]
  exact rfl
set_option maxHeartbeats 2000000 in
set_option maxRecDepth 100000 in
theorem scenes_calls (A : Option Addr) (c : Nat) (l : List S80) (w : World) (hr : Kd.C k80 w A l.length l) (hc : l.length ≤ c) (hwf : l.all wfScene = true) (hl : l.length ≤ 1000000) :
    Calls Try.prog 33 #[.slice A l.length c] w fun e w' => ∃ v, e = .returned v ∧ Kd.R (Kd.int .i64) 3 w' w.heap.size (fun _ => True) v (scenesF l) ∧ Below w.heap.size w w' := by
  have hmm := @run_makeMap Try.prog
  have hu80 := Try.underlying80
  have hu71 := Try.underlying71
  have HR := Aside0.mk hr
  have HWF := Aside0.mk hwf
  clear hr hwf
  go_enter Try.func33, Try.ntmps33
  go_wp2
  go_loopw [9] (fun v wr => ∃ i : Nat, v = .int .i64 i ∧ Aside0 (i ≤ l.length) ∧ Aside0 (wr.ownsMap Try.prog 3 (plainElem Try.prog 4) w.heap.size i (seenD (l.take i))) ∧ Aside0 (Below w.heap.size w wr)) (fun v _ => l.length - (intOf v).toNat)
  case atStart => exact ⟨0, rfl, ⟨Nat.zero_le _⟩, ⟨World.ownsMap_made _ _ _ _⟩, ⟨(Below.refl _ _).alloc (Nat.le_refl _) _⟩⟩
  case round =>
    obtain ⟨i, rfl, HI, HO, HB⟩ := hrel
    have hi := HI.out
    by_cases hlt : i < l.length
    · have hk : (Lit.int .i64 (rd_T80 l i).f3.f0).wf = true := by
        have := List.all_eq_true.1 HWF.out (rd_T80 l i) (by simp [rd_T80, List.getD_eq_getElem?_getD, List.getElem?_eq_getElem hlt])
        exact this
      have hkey : keyOf Try.prog 3 (.int .i64 (rd_T80 l i).f3.f0) = some (.int .i64 (rd_T80 l i).f3.f0) := keyOf_int_mk Try.underlying3 hk
      have HS := Aside0.mk (seenD_step l i hlt)
      have hmx : i < maxLen := by unfold maxLen; omega
      obtain ⟨ad, e, hx0, hx1, hx2, hx3, hx4, hx5, hx6, hx7, hx8⟩ := at_T80 (Kd.C_below HR.out HB.out) i (by omega) (by omega)
      cases e
      simp only [Int.toNat_natCast] at hx0 hx1 hx2 hx3 hx4 hx5 hx6 hx7 hx8
      go_wp2_with (at_mapUpdate; refine wpList_mapUpdate_own _ rfl _ _ _ 100 rfl 3 4 (int_keyed Try.underlying3) Try.underlying100 _ w.heap.size i _ rfl (HO.out.alloc _) hmx _ _ _ rfl rfl hkey _ [] (plainElem_bool Try.underlying4 true) ?_; intro w1 hown1 hgrow1; have HO1 := Aside0.mk hown1; have HG1 := Aside0.mk hgrow1; clear hown1 hgrow1)
      go_roundw
      case rel => exact ⟨i + 1, by go_num, ⟨by omega⟩, ⟨by rw [HS.out]; exact HO1.out⟩, ⟨(HB.out.alloc HB.out.size _).grown HG1.out (by have := HB.out.size; simp; omega) (fun j hj => by cases hj; exact Nat.le_refl _)⟩⟩
      case measure => simp [intOf]; omega
    · obtain rfl : i = l.length := by omega
      have hkey : keyOf Try.prog 3 (.int .i64 (-1)) = some (.int .i64 (-1)) := keyOf_int_mk Try.underlying3 (by decide)
      go_wp2_with (at_delete; refine wpList_delete_own _ rfl _ _ 100 3 rfl 4 (int_keyed Try.underlying3) Try.underlying100 _ w.heap.size l.length _ rfl HO.out _ _ rfl hkey ?_; intro w1 hown1 hturn1; have HO1 := Aside0.mk hown1; have HT1 := Aside0.mk hturn1.grown; clear hown1 hturn1)
      refine (keys_calls _ _).mono ?_
      rintro e w' ⟨rfl, rfl⟩
      go_wp2_with fail
      have hown2 := HO1.out
      rw [List.take_length] at hown2
      have hs := hown2.size_le
      refine (sorted_calls w.heap.size l.length _ _ hown2 (by omega)).mono ?_
      rintro e w' ⟨v, ss, rfl, hS, hrow, hnil, hb⟩
      have HP := Aside0.mk (And.intro (hS.trans (uniq_perm l hown2).symm) (And.intro hrow hb))
      clear hS hrow hnil hb
      go_wp2
      go_ret
      obtain ⟨hS, hrow, hb⟩ := HP.out
      have hbl : w.heap.size ≤ w1.heap.size := by have := HB.out.size; have := HT1.out.size; omega
      refine ⟨v, rfl, ?_, ?_⟩
      · have e1 : ss.mergeSort leI = scenesF l := mergeSort_of_perm_i hS
        have e2 : ss.length = (scenesF l).length := by rw [← e1, List.length_mergeSort]
        change World.ownsRow _ _ _ _ _ _ ((ss.mergeSort leI).map encZ) at hrow
        rw [e1, e2] at hrow
        exact Kd.R_lower (rowInts hrow) (by omega)
      · have h1 : Below w.heap.size w w1 := HB.out.grown HT1.out HB.out.size (fun j hj => by cases hj; exact Nat.le_refl _)
        exact (h1.alloc h1.size _).trans (hb.mono (by omega))
theorem prov_Scenes.calls (A0 : Option Addr) (c0 : Nat) (l0 : List S80) (r : List Int) (w : World) (hr0 : Kd.C k80 w A0 l0.length l0) (hc0 : l0.length ≤ c0) (h : prov_Scenes.f l0 = some r) :
    Calls Try.prog 33 #[.slice A0 l0.length c0] w fun e w' => ∃ v0_ : Value, e = .returned v0_ ∧ Kd.R (Kd.int .i64) 3 w' w.heap.size (fun _ => True) v0_ r ∧ Below w.heap.size w w' := by
  unfold prov_Scenes.f at h
  by_cases hb : l0.all wfScene = true ∧ l0.length ≤ 1000000
  · rw [if_pos hb] at h
    obtain rfl := Option.some.inj h
    exact scenes_calls A0 c0 l0 w hr0 hc0 hb.1 hb.2
  · rw [if_neg hb] at h; cases h
end Go.Proofs.Ytgmbjgddelcceaa.P
