import Derived.Test.YtcbkcgnigncahaaEPlainQ
import Derived.Test.YtcbkcgnigncahaaEWNEv
namespace Go.Proofs.Ytcbkcgnigncahaa.P
open Go.RowKit Go.Proofs.YtcbkcgnigncahaaW.PrintWords Go.Proofs.YtcbkcgnigncahaaW.PrintLast
set_option linter.unusedVariables false
set_option linter.unusedSimpArgs false
def namesL : List ByteArray := [(⟨#[109, 97, 105, 110]⟩ : ByteArray), (⟨#[97]⟩ : ByteArray), (⟨#[98, 45, 50]⟩ : ByteArray), (⟨#[109, 97, 105, 110]⟩ : ByteArray), (⟨#[97]⟩ : ByteArray), (⟨#[122, 57]⟩ : ByteArray), (⟨#[98, 45, 50]⟩ : ByteArray), (⟨#[109, 97, 105, 110]⟩ : ByteArray), (⟨#[65]⟩ : ByteArray), (⟨#[]⟩ : ByteArray), (⟨#[45, 97]⟩ : ByteArray), (⟨#[97, 50, 51, 52, 53, 54, 55, 56, 57, 48, 49, 50, 51, 52, 53, 54]⟩ : ByteArray), (⟨#[97, 50, 51, 52, 53, 54, 55, 56, 57, 48, 49, 50, 51, 52, 53, 54, 55]⟩ : ByteArray), (⟨#[109, 95, 110]⟩ : ByteArray)]
theorem name_some (n : Int) (hn : (Lit.int .i64 n).wf = true) : ∃ r, skymosaicref31_Name.f n = some r ∧ r ∈ namesL := by
  obtain ⟨i, hi, h0, h1⟩ := around_some n 14 hn (by omega) (by omega)
  unfold skymosaicref31_Name.f
  simp only [Option.bind_some]
  rw [hi]
  simp only [Option.bind_some]
  rw [if_pos h0, if_pos (by simpa using h1)]
  refine ⟨_, rfl, ?_⟩
  unfold rdOf
  rw [List.getD_eq_getElem?_getD]
  have hlt : i.toNat < namesL.length := by have : namesL.length = 14 := rfl; omega
  show (namesL[i.toNat]?).getD _ ∈ namesL
  rw [List.getElem?_eq_getElem hlt]
  exact List.getElem_mem _
/-- The bounds of an operation of a script. -/
structure OpOk (o : S38) : Prop where
  kind : o.f0 = 0 ∨ o.f0 = 1 ∨ o.f0 = 2
  name : o.f1 ∈ namesL
  id : -2 ≤ o.f2 ∧ o.f2 ≤ 11
  taken : 0 ≤ o.f3 ∧ o.f3 ≤ 29
  known : -2 ≤ o.f4 ∧ o.f4 ≤ 1000
  reader : -4 ≤ o.f5 ∧ o.f5 ≤ 6
  root : 0 ≤ o.f6 ∧ o.f6 < 1048576
theorem names_size : namesL.all (fun x => decide (x.size ≤ 17)) = true := by decide +kernel
theorem OpOk.size {o : S38} (h : OpOk o) : o.f1.size ≤ 17 := by
  have := List.all_eq_true.1 names_size _ h.name
  simpa using this
theorem rd_wf {l : List Int} (hl : ∀ x ∈ l, (Lit.int .i64 x).wf = true) (i : Int) (h0 : 0 ≤ i) (h : i < l.length) : (Lit.int .i64 (rd l i)).wf = true := by
  unfold rd
  rw [List.getD_eq_getElem?_getD, List.getElem?_eq_getElem (show i.toNat < l.length by omega)]
  exact hl _ (List.getElem_mem _)
theorem tdiv_nn {a b : Int} (ha : 0 ≤ a) (hb : 0 < b) : Int.tdiv a b = a / b := Int.tdiv_eq_ediv_of_nonneg ha
theorem wf_of {x : Int} (h : -9223372036854775808 ≤ x ∧ x ≤ 9223372036854775807) : (Lit.int .i64 x).wf = true := by
  simp [Lit.wf, IntKind.min, IntKind.max, IntKind.signed, IntKind.bits]
  omega
theorem script_loop (l : List Int) (most : Int) (hm : most ≤ 400) (hl : ∀ x ∈ l, (Lit.int .i64 x).wf = true) (hlen : l.length ≤ 9223372036854775000) : ∀ (d : Nat) (x5 : List S38) (x6 x7 : Int), most - x5.length ≤ d → 0 ≤ x7 ∧ x7 ≤ 2 * (x5.length : Int) → 0 ≤ x6 → x6 ≤ 2 * (x5.length : Int) → x5.length ≤ most → x5.length ≤ 400 → (∀ o ∈ x5, OpOk o) →
    ∃ r, Ev (fun k => skymosaicref31_Script.l0 k l most x5 x6 x7) r ∧ (∀ o ∈ r, OpOk o) ∧ (r.length : Int) ≤ most := by
  have hend : ∀ (x5 : List S38) (x6 x7 : Int), x5.length ≤ most → (∀ o ∈ x5, OpOk o) → ∃ r, Ev (fun k => skymosaicref31_Script.j1 k l most x5 x6 x7 false) r ∧ (∀ o ∈ r, OpOk o) ∧ (r.length : Int) ≤ most := by
    intro x5 x6 x7 h5 ho
    refine ⟨x5, Ev.step (f := fun _ => some x5) (fun k => ?_) (Ev.now _), ho, h5⟩
    unfold skymosaicref31_Script.j1
    rfl
  intro d
  induction d with
  | zero =>
    intro x5 x6 x7 hd h7 h60 h6 hmm h400 ho
    obtain ⟨r, hr, h⟩ := hend x5 x6 x7 hmm ho
    refine ⟨r, Ev.step (f := fun k => skymosaicref31_Script.j1 k l most x5 x6 x7 false) (fun k => ?_) hr, h⟩
    conv => lhs; unfold skymosaicref31_Script.l0
    split
    · rw [decide_eq_false (by omega)]
    · rfl
  | succ d ih =>
    intro x5 x6 x7 hd h7 h60 h6 hmm h400 ho
    by_cases hc : (wrap64 (x7 + 1)) < (l.length : Int) ∧ (x5.length : Int) < most
    · obtain ⟨hc1, hc2⟩ := hc
      have hw : wrap64 (x7 + 1) = x7 + 1 := w64 (by omega)
      rw [hw] at hc1
      obtain ⟨n, hn, hn0, hn1⟩ := around_some (rd l x7) 1048576 (rd_wf hl x7 (by omega) (by omega)) (by omega) (by omega)
      obtain ⟨m, hm', hm0, hm1⟩ := around_some (rd l (x7 + 1)) 1048576 (rd_wf hl (x7 + 1) (by omega) (by omega)) (by omega) (by omega)
      have d16 : wrap64 (Int.tdiv n 16) = n / 16 := by rw [tdiv_nn hn0 (by omega), w64 (by omega)]
      obtain ⟨nm, hnm, hnm2⟩ := name_some (n / 16) (wf_of (by omega))
      have t16 : Int.tmod n 16 = n % 16 := (tmod_nn hn0 (by omega)).1
      have k3 : wrap64 (x6 + Int.tmod m 3) = x6 + m % 3 := by rw [(tmod_nn hm0 (by omega)).1, w64 (by omega)]
      have i3 : wrap64 (Int.tmod (wrap64 (Int.tdiv m 3)) 14 - 2) = m / 3 % 14 - 2 := by rw [tdiv_nn hm0 (by omega), w64 (x := m / 3) (by omega), (tmod_nn (a := m / 3) (b := 14) (by omega) (by omega)).1, w64 (by omega)]
      have t7 : Int.tmod (wrap64 (Int.tdiv m 7)) 30 = m / 7 % 30 := by rw [tdiv_nn hm0 (by omega), w64 (x := m / 7) (by omega), (tmod_nn (a := m / 7) (b := 30) (by omega) (by omega)).1]
      have r9 : wrap64 (Int.tmod m 9 - 2) = m % 9 - 2 := by rw [(tmod_nn hm0 (by omega)).1, w64 (by omega)]
      have u0 : IntKind.u64.wrap m = m := IntWalk.u64_in m (by omega)
      have k40 : wrap64 (Int.tmod m 40 - 2) = m % 40 - 2 := by rw [(tmod_nn hm0 (by omega)).1, w64 (by omega)]
      have r8 : wrap64 (Int.tmod m 8 - 4) = m % 8 - 4 := by rw [(tmod_nn hm0 (by omega)).1, w64 (by omega)]
      have w2 : wrap64 (x7 + 2) = x7 + 2 := w64 (by omega)
      -- on with one more operation
      have go : ∀ o : S38, OpOk o → ∃ r, Ev (fun k => skymosaicref31_Script.l0 k l most (x5 ++ [o]) (x6 + m % 3) (x7 + 2)) r ∧ (∀ o ∈ r, OpOk o) ∧ (r.length : Int) ≤ most := by
        intro o hok
        refine ih (x5 ++ [o]) (x6 + m % 3) (x7 + 2) (by simp; omega) (by simp; omega) (by omega) (by simp; omega) (by simp; omega) (by simp; omega) ?_
        intro o' ho'
        rcases List.mem_append.1 ho' with h | h
        · exact ho o' h
        · rw [List.mem_singleton.1 h]; exact hok
      -- the first steps, up to the kind
      have fst : ∀ r, Ev (fun k => skymosaicref31_Script.j2 k l most x5 (x6 + m % 3) x7 m (n % 16) (decide (n % 16 = 0 ∨ n % 16 = 1 ∨ n % 16 = 2)) 0 nm (m / 3 % 14 - 2) (m / 7 % 30) (x6 + m % 3) (m % 9 - 2) m) r → Ev (fun k => skymosaicref31_Script.l0 k l most x5 x6 x7) r := by
        intro r hr
        refine Ev.step (f := fun k => skymosaicref31_Script.j1 k l most x5 x6 x7 true) (fun k => ?_) (Ev.step (fun k => ?_) hr)
        · conv => lhs; unfold skymosaicref31_Script.l0
          rw [hw, if_pos hc1, decide_eq_true hc2]
        · conv => lhs; unfold skymosaicref31_Script.j1
          rw [if_pos rfl, if_pos (by omega), if_pos (by omega), hn]
          simp only [Option.bind_some]
          rw [hw, if_pos (by omega), if_pos hc1, hm']
          simp only [Option.bind_some]
          rw [d16, hnm]
          simp only [Option.bind_some]
          rw [t16, k3, i3, t7, r9, u0]
          by_cases c0 : n % 16 = 0
          · rw [if_pos c0, c0]; rfl
          · rw [if_neg c0]
            by_cases c1 : n % 16 = 1
            · rw [if_pos c1, c1]; rfl
            · rw [if_neg c1]
              have e : ((n % 16) == 2) = decide (n % 16 = 0 ∨ n % 16 = 1 ∨ n % 16 = 2) := by
                rw [Bool.eq_iff_iff]; simp [c0, c1]
              rw [e]
      have bnd : (-2 ≤ m / 3 % 14 - 2 ∧ m / 3 % 14 - 2 ≤ 11) ∧ (0 ≤ m / 7 % 30 ∧ m / 7 % 30 ≤ 29) ∧ (-2 ≤ x6 + m % 3 ∧ x6 + m % 3 ≤ 1000) ∧ (-4 ≤ m % 9 - 2 ∧ m % 9 - 2 ≤ 6) ∧ (-2 ≤ m % 40 - 2 ∧ m % 40 - 2 ≤ 1000) ∧ (-4 ≤ m % 8 - 4 ∧ m % 8 - 4 ≤ 6) := by omega
      obtain ⟨b1, b2, b3, b4, b5, b6⟩ := bnd
      by_cases q0 : n % 16 = 0 ∨ n % 16 = 1 ∨ n % 16 = 2
      · obtain ⟨r, hr, h⟩ := go ⟨0, nm, m / 3 % 14 - 2, m / 7 % 30, x6 + m % 3, m % 9 - 2, m⟩ ⟨.inl rfl, hnm2, b1, b2, b3, b4, hm0, hm1⟩
        refine ⟨r, fst r (Ev.step (fun k => ?_) hr), h⟩
        conv => lhs; unfold skymosaicref31_Script.j2
        rw [decide_eq_true q0, if_pos rfl, if_pos (by omega), w2]
      · -- to j3
        have snd : ∀ r, Ev (fun k => skymosaicref31_Script.j3 k l most x5 (x6 + m % 3) x7 m (n % 16) (decide (n % 16 = 3 ∨ n % 16 = 4)) 0 nm (m / 3 % 14 - 2) (m / 7 % 30) (x6 + m % 3) (m % 9 - 2) m) r → Ev (fun k => skymosaicref31_Script.l0 k l most x5 x6 x7) r := by
          intro r hr
          refine fst r (Ev.step (fun k => ?_) hr)
          conv => lhs; unfold skymosaicref31_Script.j2
          rw [decide_eq_false q0, if_neg (by decide)]
          by_cases c3 : n % 16 = 3
          · rw [if_pos c3, c3]; rfl
          · rw [if_neg c3]
            have e : ((n % 16) == 4) = decide (n % 16 = 3 ∨ n % 16 = 4) := by
              rw [Bool.eq_iff_iff]; simp [c3]
            rw [e]
        by_cases q3 : n % 16 = 3 ∨ n % 16 = 4
        · obtain ⟨r, hr, h⟩ := go ⟨2, nm, m / 3 % 14 - 2, m / 7 % 30, x6 + m % 3, m % 9 - 2, m⟩ ⟨.inr (.inr rfl), hnm2, b1, b2, b3, b4, hm0, hm1⟩
          refine ⟨r, snd r (Ev.step (fun k => ?_) hr), h⟩
          conv => lhs; unfold skymosaicref31_Script.j3
          rw [decide_eq_true q3, if_pos rfl, if_pos (by omega), w2]
        · by_cases q5 : n % 16 = 5
          · obtain ⟨r, hr, h⟩ := go ⟨1, nm, m / 3 % 14 - 2, m / 7 % 30, m % 40 - 2, m % 8 - 4, m⟩ ⟨.inr (.inl rfl), hnm2, b1, b2, b5, b6, hm0, hm1⟩
            refine ⟨r, snd r (Ev.step (fun k => ?_) hr), h⟩
            conv => lhs; unfold skymosaicref31_Script.j3
            rw [decide_eq_false q3, if_neg (by decide), if_pos q5, if_pos (by omega), w2, k40, r8]
          · obtain ⟨r, hr, h⟩ := go ⟨1, nm, m / 3 % 14 - 2, m / 7 % 30, x6 + m % 3, m % 9 - 2, m⟩ ⟨.inr (.inl rfl), hnm2, b1, b2, b3, b4, hm0, hm1⟩
            refine ⟨r, snd r (Ev.step (fun k => ?_) hr), h⟩
            conv => lhs; unfold skymosaicref31_Script.j3
            rw [decide_eq_false q3, if_neg (by decide), if_neg q5, if_pos (by omega), w2]
    · obtain ⟨r, hr, h⟩ := hend x5 x6 x7 hmm ho
      refine ⟨r, Ev.step (f := fun k => skymosaicref31_Script.j1 k l most x5 x6 x7 false) (fun k => ?_) hr, h⟩
      conv => lhs; unfold skymosaicref31_Script.l0
      split
      · rw [decide_eq_false (by omega)]
      · rfl
theorem script_some (l : List Int) (most : Int) (h1 : 1 ≤ most) (hm : most ≤ 400) (hl : ∀ x ∈ l, (Lit.int .i64 x).wf = true) (hlen : l.length ≤ 9223372036854775000) :
    ∃ k r, skymosaicref31_Script.f k l most = some r ∧ (∀ o ∈ r, OpOk o) ∧ (r.length : Int) ≤ most := by
  obtain ⟨r, hr, h⟩ := script_loop l most hm hl hlen 400 [⟨0, (⟨#[109, 97, 105, 110]⟩ : ByteArray), (-1), 0, 0, 0, 0⟩] 0 0 (by simp; omega) (by simp) (by omega) (by simp) (by simp; omega) (by simp) (by
    intro o ho
    rw [List.mem_singleton.1 ho]
    exact ⟨.inl rfl, by simp [namesL], by simp, by simp, by simp, by simp, by simp⟩)
  obtain ⟨k, hk⟩ := hr.rounds
  exact ⟨k, r, hk, h⟩
end Go.Proofs.Ytcbkcgnigncahaa.P
