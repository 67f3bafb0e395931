import Derived.Test.YtcbkcgnigncahaaEGivenZa
import Derived.Lib.SliceRun
import Derived.Maps.RangeWalk
namespace Go.Proofs.Ytcbkcgnigncahaa.P.Wr
open Go.RowKit Go.Proofs.YtcbkcgnigncahaaW.PrintWords Go.Proofs.YtcbkcgnigncahaaW.PrintLast Go.Proofs.YtcbkcgnigncahaaW.PrintMore
attribute [local go_sem] max2_int min2_int max_two min_two max_three min_three max_four min_four
set_option linter.unusedVariables false
set_option linter.unusedSimpArgs false
/-- A reader's state: the bytes that are left, and the first error. -/
structure Rd where
  b : List Int
  e : Int
def Rd.fail (s : Rd) (e : Int) : Rd := if s.e = 0 then ⟨s.b, e⟩ else s
def nextF (s : Rd) : Int × Rd := match s.b with
  | [] => (0, s.fail 3)
  | c :: t => if s.e = 0 then (c, ⟨t, 0⟩) else (0, s)
/-- The reader at g is in this state. -/
def RS (ok : Nat → Prop) (g : Nat) (s : Rd) (W : World) : Prop :=
  ∃ A c, W.heap[g]? = some (.cells #[.slice A s.b.length c, .int .i64 s.e] 112 (0, 0)) ∧ s.b.length ≤ c ∧ Kd.C (Kd.int .u8) W A s.b.length s.b ∧ (∀ ad, A = some ad → 0 < s.b.length → ok ad.block ∧ ad.block ≠ g)
theorem RS.lt {ok : Nat → Prop} {g : Nat} {s : Rd} {W : World} (h : RS ok g s W) : g < W.heap.size := by
  obtain ⟨A, c, h1, _⟩ := h
  exact blk_lt h1
theorem RS.below {ok : Nat → Prop} {g : Nat} {s : Rd} {W W' : World} (h : RS ok g s W) (hb : Below W.heap.size W W') : RS ok g s W' := by
  obtain ⟨A, c, h1, h2, h3, h4⟩ := h
  exact ⟨A, c, blk_below h1 hb, h2, Kd.C_below h3 hb, h4⟩
theorem RS.drawn {ok : Nat → Prop} {g : Nat} {s : Rd} {W : World} (h : RS ok g s W) (n : Nat) : RS ok g s (W.drewN n) := h.below (pw_below_drewN (Below.refl _ _) n)
theorem keepBut_set {W : World} {g : Nat} (j : Nat) (u : Value) : KeepBut W (W.setCell ⟨g, j, none⟩ u) g none := (KeepBut.refl W g none).set_ j u
theorem grown_set (W : World) (g j : Nat) (u : Value) : W.grownBy (W.setCell ⟨g, j, none⟩ u) (some g) :=
  ⟨rfl, rfl, rfl, by simp, fun k _ hne => Below.heap_setCell W ⟨g, j, none⟩ u k (fun e => hne (by rw [e]))⟩
set_option maxHeartbeats 1000000 in
theorem fail_calls {ok : Nat → Prop} (g : Nat) (s : Rd) (x : Int) (w : World) (hs : RS ok g s w) :
    Calls Try.prog 91 #[.pointer (some ⟨g, 0, none⟩), .int .i64 x] w fun e w' => e = .returned (.tuple #[]) ∧ RS ok g (s.fail x) w' ∧ w.grownBy w' (some g) := by
  obtain ⟨A, c, h1, h2, h3, h4⟩ := hs
  have c1 : w.cell? ⟨g, 1, none⟩ = some (.int .i64 s.e) := blk_cell h1 1
  have z1 := blk_frozen h1 1
  have H := Aside0.mk (And.intro h1 (And.intro h3 h4))
  clear h1 h3 h4
  by_cases he : s.e = 0
  · have hf : s.fail x = ⟨s.b, x⟩ := by unfold Rd.fail; rw [if_pos he]
    have HF := Aside0.mk hf
    clear hf
    rw [he] at c1
    clear he
    go_enter Try.func91, Try.ntmps91
    go_wp2
    first | go_end0 | ((try simp only [Exit.inBlock, Exit.then]); refine bodyPost_ret (results_none rfl _ _ _) rfl ?_)
    rw [HF.out]
    obtain ⟨h1, h3, h4⟩ := H.out
    exact ⟨rfl, ⟨A, c, blk_put h1 1 _ rfl, h2, Kd.C_keep 0 h3 (keepBut_set _ _) (fun ad e hp => (h4 ad e hp).2), h4⟩, grown_set _ _ _ _⟩
  · have hf : s.fail x = s := by unfold Rd.fail; rw [if_neg he]
    have hb : (s.e == 0) = false := beq_eq_false_iff_ne.mpr he
    have HF := Aside0.mk hf
    clear hf he
    go_enter Try.func91, Try.ntmps91
    go_wp2
    first | go_end0 | ((try simp only [Exit.inBlock, Exit.then]); refine bodyPost_ret (results_none rfl _ _ _) rfl ?_)
    rw [HF.out]
    obtain ⟨h1, h3, h4⟩ := H.out
    exact ⟨rfl, ⟨A, c, h1, h2, h3, h4⟩, ⟨rfl, rfl, rfl, Nat.le_refl _, fun _ _ _ => rfl⟩⟩
theorem at_u8 {w : World} {A : Option Addr} {c : Int} {t : List Int} (h : Kd.C (Kd.int .u8) w A (c :: t).length (c :: t)) : ∃ ad, A = some ad ∧ w.cell? ad = some (.int .u8 c) := by
  obtain ⟨ad, e, h1⟩ := Kd.at_int h 0 (by omega) (by simp)
  exact ⟨ad, e, by simpa [Addr.add, rd] using h1⟩
set_option maxHeartbeats 2000000 in
set_option maxRecDepth 100000 in
theorem next_calls {ok : Nat → Prop} (g : Nat) (s : Rd) (w : World) (hs : RS ok g s w) :
    Calls Try.prog 80 #[.pointer (some ⟨g, 0, none⟩)] w fun e w' => e = .returned (.int .u8 (nextF s).1) ∧ RS ok g (nextF s).2 w' ∧ w.grownBy w' (some g) := by
  obtain ⟨b, er⟩ := s
  have hu112 := Try.underlying112
  cases b with
  | nil =>
    have HS := Aside0.mk hs
    obtain ⟨A, c, h1, h2, h3, h4⟩ := hs
    have c0 : w.cell? ⟨g, 0, none⟩ = some (.slice A 0 c) := blk_cell h1 0
    have hf : nextF ⟨[], er⟩ = (0, Rd.fail ⟨[], er⟩ 3) := rfl
    have HF := Aside0.mk hf
    have hne : ((Rd.fail ⟨[], er⟩ 3).e == 0) = false := by
      unfold Rd.fail
      split
      · rfl
      · rename_i h; exact beq_eq_false_iff_ne.mpr h
    have hne2 : ((Rd.fail ⟨[], er⟩ 3).e != 0) = true := by rw [bne, hne]; rfl
    clear hf h1 h2 h3 h4
    go_enter Try.func80, Try.ntmps80
    go_wp2_with fail
    refine (fail_calls g ⟨[], er⟩ 3 _ HS.out).mono ?_
    rintro e w1 ⟨rfl, hs1, hg1⟩
    have HS1 := Aside0.mk hs1
    have HG1 := Aside0.mk hg1
    obtain ⟨A1, cc1, q1, q2, q3, q4⟩ := hs1
    have d1 : w1.cell? ⟨g, 1, none⟩ = some (.int .i64 (Rd.fail ⟨[], er⟩ 3).e) := blk_cell q1 1
    generalize (Rd.fail ⟨[], er⟩ 3).e = ee at d1 hne hne2
    clear q1 q2 q3 q4 hg1 c0
    go_wp2
    go_ret
    rw [HF.out]
    exact ⟨rfl, HS1.out, HG1.out⟩
  | cons x t =>
    by_cases he : er = 0
    · subst he
      obtain ⟨A, c, h1, h2, h3, h4⟩ := hs
      have c0 : w.cell? ⟨g, 0, none⟩ = some (.slice A (t.length + 1) c) := blk_cell h1 0
      have c1 : w.cell? ⟨g, 1, none⟩ = some (.int .i64 0) := blk_cell h1 1
      have z0 := blk_frozen h1 0
      obtain ⟨ad, rfl, hx⟩ := at_u8 h3
      obtain ⟨q0, hq0, _, hqsz, _⟩ := info_parts info5
      have hcut := cut_from (P := Try.prog) 63 5 .i64 Try.underlying63 hq0 1 hqsz (some ad) (t.length + 1) c 1 (by omega) (by omega)
      have hM : t.length + 1 ≤ maxLen := h3.2.1
      have hr := Kd.C_drop (c := c) h3 (m := 1) (by simp) h2
      have H := Aside0.mk (And.intro h1 (And.intro h4 hr))
      clear h1 h3 h4 hr
      obtain ⟨B, hB⟩ : ∃ B : Option Addr, B = (if c = (1 : Int).toNat then some ad else (some ad).map (·.add ((1 : Int).toNat * 1))) := ⟨_, rfl⟩
      rw [← hB] at hcut
      have HB := Aside0.mk hB
      clear hB
      have h2' : 1 ≤ c := by simp at h2; omega
      have h2'' : t.length + 1 ≤ c := by simpa using h2
      go_enter Try.func80, Try.ntmps80
      go_wp2
      go_ret
      obtain ⟨h1, h4, hr⟩ := H.out
      have hb2 : B = (if c = 1 then some ad else (some ad).map (·.add (1 * 1))) := HB.out
      rw [show (List.drop 1 (x :: t)) = t from rfl] at hr
      rw [show (Kd.int .u8).sz = 1 from rfl, ← hb2] at hr
      refine ⟨rfl, ⟨B, c - 1, blk_put h1 0 _ rfl, by show t.length ≤ c - 1; omega, Kd.C_keep 0 hr (keepBut_set _ _) ?_, ?_⟩, grown_set _ _ _ _⟩
      all_goals
        intro ad2 e2 hp
        have hbk : ad2.block = ad.block := by
          rw [hb2] at e2
          split at e2
          · exact congrArg Addr.block (Option.some.inj e2).symm
          · have := (Option.some.inj e2).symm
            rw [this]; rfl
        rw [hbk]
        first | exact h4 ad rfl (by simp) | exact (h4 ad rfl (by simp)).2
    · have hb : (er == 0) = false := beq_eq_false_iff_ne.mpr he
      have hb2 : (er != 0) = true := by rw [bne, hb]; rfl
      have HS := Aside0.mk hs
      obtain ⟨A, c, h1, h2, h3, h4⟩ := hs
      have c0 : w.cell? ⟨g, 0, none⟩ = some (.slice A (t.length + 1) c) := blk_cell h1 0
      have c1 : w.cell? ⟨g, 1, none⟩ = some (.int .i64 er) := blk_cell h1 1
      have hM : t.length + 1 ≤ maxLen := h3.2.1
      have hf : nextF ⟨x :: t, er⟩ = (0, ⟨x :: t, er⟩) := by simp [nextF, he]
      have HF := Aside0.mk hf
      clear hf h1 h3 h4 he
      go_enter Try.func80, Try.ntmps80
      go_wp2
      go_ret
      rw [HF.out]
      exact ⟨rfl, HS.out, ⟨rfl, rfl, rfl, Nat.le_refl _, fun _ _ _ => rfl⟩⟩
def badB (i c : Int) : Bool := (i == 9 && decide (c > 1)) || (decide (i > 0) && c == 0)
def accN (n i c : Int) : Int := Go.bits .or .u64 n (IntKind.u64.wrap (IntKind.u64.wrap (Go.bits .andNot .u8 c 128) * 2 ^ (7 * i).toNat))
def uintL : Nat → Int → Int → Rd → Int × Rd
  | 0, _, _, s => (0, s)
  | k + 1, i, n, s => if s.e = 0 then
      (if (nextF s).1 < 128 ∧ (if badB i (nextF s).1 then (nextF s).2.fail 2 else (nextF s).2).e = 0 then (accN n i (nextF s).1, if badB i (nextF s).1 then (nextF s).2.fail 2 else (nextF s).2)
        else uintL k (i + 1) (accN n i (nextF s).1) (if badB i (nextF s).1 then (nextF s).2.fail 2 else (nextF s).2))
    else (0, s)
def uintF (s : Rd) : Int × Rd := uintL 11 0 0 s
theorem uintL_end (k : Nat) (i n : Int) (s : Rd) (h : s.e ≠ 0) : uintL k i n s = (0, s) := by
  cases k with
  | zero => rfl
  | succ k => simp only [uintL]; rw [if_neg h]
theorem fail_e (s : Rd) (x : Int) (hx : x ≠ 0) : (s.fail x).e ≠ 0 := by
  unfold Rd.fail
  split
  · exact hx
  · assumption
set_option maxHeartbeats 2000000 in
set_option maxRecDepth 100000 in
theorem ruint_calls {ok : Nat → Prop} (g : Nat) (s0 : Rd) (w : World) (hs : RS ok g s0 w) :
    Calls Try.prog 74 #[.pointer (some ⟨g, 0, none⟩)] w fun e w' => e = .returned (.int .u64 (uintF s0).1) ∧ RS ok g (uintF s0).2 w' ∧ w.grownBy w' (some g) := by
  have HS := Aside0.mk hs
  clear hs
  go_enter Try.func74, Try.ntmps74
  go_wp2
  go_loopg [3, 4] 11 (fun kq v3 v4 wr => ∃ (n i : Int) (s : Rd), v3 = .int .u64 n ∧ v4 = .int .i64 i ∧ Aside0 (0 ≤ i ∧ i + kq = 11) ∧ Aside0 (RS ok g s wr) ∧ Aside0 (i ≤ 9 ∨ s.e ≠ 0) ∧ Aside0 (uintL kq i n s = uintF s0) ∧ Aside0 (w.grownBy wr (some g)))
  case atStart => exact ⟨0, 0, s0, rfl, rfl, ⟨by omega, by omega⟩, HS, ⟨.inl (by omega)⟩, ⟨rfl⟩, ⟨⟨rfl, rfl, rfl, Nat.le_refl _, fun _ _ _ => rfl⟩⟩⟩
  case round =>
    obtain ⟨n, i, s, rfl, rfl, HI, HS, HE, HU, HW⟩ := hrel
    obtain ⟨W, rfl⟩ : ∃ W : World, W = wr := ⟨_, rfl⟩
    obtain ⟨b, er⟩ := s
    obtain ⟨A, c, q1, q2, q3, q4⟩ := HS.out
    have d1 : W.cell? ⟨g, 1, none⟩ = some (.int .i64 er) := blk_cell q1 1
    clear q1 q2 q3 q4
    by_cases he : er = 0
    · subst he
      have h9 : i ≤ 9 := HE.out.resolve_right (by simp)
      have i0 := HI.out.1
      go_wp2_with fail
      refine (next_calls g ⟨b, 0⟩ _ HS.out).mono ?_
      rintro e w1 ⟨rfl, hs1, hg1⟩
      have HS1 := Aside0.mk hs1
      have HG1 := Aside0.mk hg1
      clear hs1 hg1
      obtain ⟨k', rfl⟩ : ∃ k', gk = k' + 1 := by
        cases gk with
        | zero => have := HI.out.2; omega
        | succ k' => exact ⟨k', rfl⟩
      have hu := HU.out
      simp only [uintL] at hu
      rw [if_pos trivial] at hu
      have HV := Aside0.mk hu
      clear hu HU
      generalize nextF ⟨b, 0⟩ = r at HS1 HV
      obtain ⟨c, s1⟩ := r
      simp only at HV
      obtain ⟨b1, e1⟩ := s1
      have d1 : w1.cell? ⟨g, 1, none⟩ = some (.int .i64 e1) := by obtain ⟨A, c, q1, q2, q3, q4⟩ := HS1.out; exact blk_cell q1 1
      obtain ⟨s2, hs2⟩ : ∃ s2 : Rd, s2 = if badB i c then Rd.fail ⟨b1, e1⟩ 2 else ⟨b1, e1⟩ := ⟨_, rfl⟩
      have HS2 := Aside0.mk hs2
      clear hs2
      go_upto_region 6 with fail
      go_cut [28] (fun s28 wx => s28 = .bool (badB i c) ∧ wx = w1)
      case first =>
        by_cases h9' : i = 9
        · subst h9'
          by_cases h2 : c > 1
          · have hq : badB 9 c = true := by simp [badB, h2]
            have HQ := Aside0.mk hq
            clear hq
            go_wp2
            go_meet
            exact ⟨by rw [HQ.out], rfl⟩
          · have h2' : c ≤ 1 := by omega
            have hq : badB 9 c = (c == 0) := by simp [badB, h2]
            have HQ := Aside0.mk hq
            have h2'' : decide (1 < c) = false := decide_eq_false h2
            clear hq h2
            go_wp2
            go_meet
            exact ⟨by rw [HQ.out], rfl⟩
        · have h3 : (i == 9) = false := beq_eq_false_iff_ne.mpr h9'
          by_cases hi : i > 0
          · have hq : badB i c = (c == 0) := by simp [badB, h3, hi]
            have HQ := Aside0.mk hq
            clear hq h9'
            go_wp2
            go_meet
            exact ⟨by rw [HQ.out], rfl⟩
          · have h4 : i ≤ 0 := by omega
            have hq : badB i c = false := by simp [badB, h3, hi]
            have HQ := Aside0.mk hq
            clear hq h9' hi
            go_wp2
            go_meet
            exact ⟨by rw [HQ.out], rfl⟩
      case rest =>
      obtain ⟨rfl, rfl⟩ := hcut
      go_upto_if 28 with fail
      go_cut [] (fun wx => Aside0 (RS ok g s2 wx) ∧ Aside0 (W.grownBy wx (some g)))
      case first =>
        cases hbad : badB i c with
        | true =>
          rw [hbad] at HS2
          go_wp2_with (go_at_call 91; (with_reducible refine (fail_calls g ⟨b1, e1⟩ 2 _ HS1.out).mono ?_); rintro e w2 ⟨rfl, hs3, hg3⟩)
          go_meet
          exact ⟨⟨by rw [HS2.out]; exact hs3⟩, ⟨HG1.out.trans hg3⟩⟩
        | false =>
          rw [hbad] at HS2
          go_wp2
          go_meet
          exact ⟨⟨by rw [HS2.out]; exact HS1.out⟩, HG1⟩
      case rest =>
        obtain ⟨HS3, HG3⟩ := hcut
        clear HS1 HG1 d1
        obtain ⟨w3, rfl⟩ : ∃ w3 : World, w3 = wc := ⟨_, rfl⟩
        have d1 : w3.cell? ⟨g, 1, none⟩ = some (.int .i64 s2.e) := by obtain ⟨A, c, q1, q2, q3, q4⟩ := HS3.out; exact blk_cell q1 1
        obtain ⟨b2, e2⟩ := s2
        have HV2 : Aside0 ((if c < 128 ∧ e2 = 0 then (accN n i c, (⟨b2, e2⟩ : Rd)) else uintL k' (i + 1) (accN n i c) ⟨b2, e2⟩) = uintF s0) := ⟨by have := HV.out; rw [← HS2.out] at this; exact this⟩
        have hbad9 : Aside0 (i = 9 → e2 = 0 → c < 128) := ⟨by
          intro h9 he
          by_cases hc : c > 1
          · have hq : badB i c = true := by simp [badB, h9, hc]
            have := HS2.out
            rw [hq] at this
            simp only [if_true] at this
            have h3 := fail_e ⟨b1, e1⟩ 2 (by decide)
            rw [← this] at h3
            exact absurd he h3
          · omega⟩
        clear HV HS2
        by_cases hc : c < 128
        · by_cases he : e2 = 0
          · subst he
            have hd : decide (c < 128) = true := decide_eq_true hc
            go_wp2
            go_ret
            have h := HV2.out
            rw [if_pos ⟨hc, trivial⟩] at h
            rw [← h]
            exact ⟨rfl, HS3.out, HW.out.trans HG3.out⟩
          · have hd : decide (c < 128) = true := decide_eq_true hc
            have he' : (e2 == 0) = false := beq_eq_false_iff_ne.mpr he
            have HE2 := Aside0.mk he
            clear he
            have hwi : wrap64 (i + 1) = i + 1 := by unfold wrap64; omega
            go_wp2
            go_roundg k'
            case measure => omega
            case rel =>
              have h := HV2.out
              rw [if_neg (fun h => HE2.out h.2)] at h
              exact ⟨accN n i c, i + 1, ⟨b2, e2⟩, rfl, rfl, ⟨by have := HI.out; omega, by have := HI.out; omega⟩, HS3, ⟨.inr HE2.out⟩, ⟨h⟩, ⟨HW.out.trans HG3.out⟩⟩
        · have hd : decide (c < 128) = false := decide_eq_false hc
          have hwi : wrap64 (i + 1) = i + 1 := by unfold wrap64; omega
          have HC := Aside0.mk hc
          clear hc
          go_wp2
          go_roundg k'
          case measure => omega
          case rel =>
            have h := HV2.out
            rw [if_neg (fun h => by have := HC.out; have := h.1; omega)] at h
            refine ⟨accN n i c, i + 1, ⟨b2, e2⟩, rfl, rfl, ⟨by have := HI.out; omega, by have := HI.out; omega⟩, HS3, ⟨?_⟩, ⟨h⟩, ⟨HW.out.trans HG3.out⟩⟩
            by_cases h9 : i = 9
            · right
              intro he
              have := HC.out; have := hbad9.out h9 he; omega
            · left; omega
    · have he' : (er == 0) = false := beq_eq_false_iff_ne.mpr he
      have HE2 := Aside0.mk he
      clear he
      go_wp2
      go_ret
      have h := HU.out
      rw [uintL_end _ _ _ _ HE2.out] at h
      rw [← h]
      exact ⟨rfl, HS.out, HW.out⟩
end Go.Proofs.Ytcbkcgnigncahaa.P.Wr
