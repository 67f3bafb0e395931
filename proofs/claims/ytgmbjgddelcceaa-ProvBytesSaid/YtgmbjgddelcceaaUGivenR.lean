import Derived.Test.YtgmbjgddelcceaaUGivenW
import Derived.Lib.SliceRun
import Derived.Maps.RangeWalk
import Derived.Test.YtgmbjgddelcceaaUPx10
import Derived.OpenShut
import Derived.Maps.Range
namespace Go.Proofs.Ytgmbjgddelcceaa.P
open Go.RowKit Go.Proofs.YtgmbjgddelcceaaW.PrintWords Go.Proofs.YtgmbjgddelcceaaW.PrintLast Go.Proofs.YtgmbjgddelcceaaW.PrintMore
attribute [local go_sem] max2_int min2_int max_two min_two max_three min_three max_four min_four
set_option linter.unusedVariables false
set_option linter.unusedSimpArgs false
/-- A reader's state: the bytes that are left, and the first error. -/
structure Rd where
  b : List Int
  e : Int
def Rd.fail (s : Rd) (e : Int) : Rd := if s.e = 0 then ⟨s.b, e⟩ else s
def nextF (s : Rd) : Int × Rd := match s.b with
  | [] => (0, s.fail 3)
  | c :: t => if s.e = 0 then (c, ⟨t, 0⟩) else (0, s)
/-- The reader at g is in this state. -/
def RS (ok : Nat → Prop) (g : Nat) (s : Rd) (W : World) : Prop :=
  ∃ A c, W.heap[g]? = some (.cells #[.slice A s.b.length c, .int .i64 s.e] 94 (0, 0)) ∧ s.b.length ≤ c ∧ Kd.C (Kd.int .u8) W A s.b.length s.b ∧ (∀ ad, A = some ad → 0 < s.b.length → ok ad.block ∧ ad.block ≠ g)
theorem RS.lt {ok : Nat → Prop} {g : Nat} {s : Rd} {W : World} (h : RS ok g s W) : g < W.heap.size := by
  obtain ⟨A, c, h1, _⟩ := h
  exact blk_lt h1
theorem RS.below {ok : Nat → Prop} {g : Nat} {s : Rd} {W W' : World} (h : RS ok g s W) (hb : Below W.heap.size W W') : RS ok g s W' := by
  obtain ⟨A, c, h1, h2, h3, h4⟩ := h
  exact ⟨A, c, blk_below h1 hb, h2, Kd.C_below h3 hb, h4⟩
theorem RS.drawn {ok : Nat → Prop} {g : Nat} {s : Rd} {W : World} (h : RS ok g s W) (n : Nat) : RS ok g s (W.drewN n) := h.below (pw_below_drewN (Below.refl _ _) n)
theorem keepBut_set {W : World} {g : Nat} (j : Nat) (u : Value) : KeepBut W (W.setCell ⟨g, j, none⟩ u) g none := (KeepBut.refl W g none).set_ j u
theorem grown_set (W : World) (g j : Nat) (u : Value) : W.grownBy (W.setCell ⟨g, j, none⟩ u) (some g) :=
  ⟨rfl, rfl, rfl, by simp, fun k _ hne => Below.heap_setCell W ⟨g, j, none⟩ u k (fun e => hne (by rw [e]))⟩
set_option maxHeartbeats 1000000 in
theorem fail_calls {ok : Nat → Prop} (g : Nat) (s : Rd) (x : Int) (w : World) (hs : RS ok g s w) :
    Calls Try.prog 68 #[.pointer (some ⟨g, 0, none⟩), .int .i64 x] w fun e w' => e = .returned (.tuple #[]) ∧ RS ok g (s.fail x) w' ∧ w.grownBy w' (some g) := by
  obtain ⟨A, c, h1, h2, h3, h4⟩ := hs
  have c1 : w.cell? ⟨g, 1, none⟩ = some (.int .i64 s.e) := blk_cell h1 1
  have z1 := blk_frozen h1 1
  have H := Aside0.mk (And.intro h1 (And.intro h3 h4))
  clear h1 h3 h4
  by_cases he : s.e = 0
  · have hf : s.fail x = ⟨s.b, x⟩ := by unfold Rd.fail; rw [if_pos he]
    have HF := Aside0.mk hf
    clear hf
    rw [he] at c1
    clear he
    go_enter Try.func68, Try.ntmps68
    go_wp2
    first | go_end0 | ((try simp only [Exit.inBlock, Exit.then]); refine bodyPost_ret (results_none rfl _ _ _) rfl ?_)
    rw [HF.out]
    obtain ⟨h1, h3, h4⟩ := H.out
    exact ⟨rfl, ⟨A, c, blk_put h1 1 _ rfl, h2, Kd.C_keep 0 h3 (keepBut_set _ _) (fun ad e hp => (h4 ad e hp).2), h4⟩, grown_set _ _ _ _⟩
  · have hf : s.fail x = s := by unfold Rd.fail; rw [if_neg he]
    have hb : (s.e == 0) = false := beq_eq_false_iff_ne.mpr he
    have HF := Aside0.mk hf
    clear hf he
    go_enter Try.func68, Try.ntmps68
    go_wp2
    first | go_end0 | ((try simp only [Exit.inBlock, Exit.then]); refine bodyPost_ret (results_none rfl _ _ _) rfl ?_)
    rw [HF.out]
    obtain ⟨h1, h3, h4⟩ := H.out
    exact ⟨rfl, ⟨A, c, h1, h2, h3, h4⟩, ⟨rfl, rfl, rfl, Nat.le_refl _, fun _ _ _ => rfl⟩⟩
theorem at_u8 {w : World} {A : Option Addr} {c : Int} {t : List Int} (h : Kd.C (Kd.int .u8) w A (c :: t).length (c :: t)) : ∃ ad, A = some ad ∧ w.cell? ad = some (.int .u8 c) := by
  obtain ⟨ad, e, h1⟩ := Kd.at_int h 0 (by omega) (by simp)
  exact ⟨ad, e, by simpa [Addr.add, rd] using h1⟩
set_option maxHeartbeats 2000000 in
set_option maxRecDepth 100000 in
theorem next_calls {ok : Nat → Prop} (g : Nat) (s : Rd) (w : World) (hs : RS ok g s w) :
    Calls Try.prog 57 #[.pointer (some ⟨g, 0, none⟩)] w fun e w' => e = .returned (.int .u8 (nextF s).1) ∧ RS ok g (nextF s).2 w' ∧ w.grownBy w' (some g) := by
  obtain ⟨b, er⟩ := s
  have hu94 := Try.underlying94
  cases b with
  | nil =>
    have HS := Aside0.mk hs
    obtain ⟨A, c, h1, h2, h3, h4⟩ := hs
    have c0 : w.cell? ⟨g, 0, none⟩ = some (.slice A 0 c) := blk_cell h1 0
    have hf : nextF ⟨[], er⟩ = (0, Rd.fail ⟨[], er⟩ 3) := rfl
    have HF := Aside0.mk hf
    have hne : ((Rd.fail ⟨[], er⟩ 3).e == 0) = false := by
      unfold Rd.fail
      split
      · rfl
      · rename_i h; exact beq_eq_false_iff_ne.mpr h
    have hne2 : ((Rd.fail ⟨[], er⟩ 3).e != 0) = true := by rw [bne, hne]; rfl
    clear hf h1 h2 h3 h4
    go_enter Try.func57, Try.ntmps57
    go_wp2_with fail
    refine (fail_calls g ⟨[], er⟩ 3 _ HS.out).mono ?_
    rintro e w1 ⟨rfl, hs1, hg1⟩
    have HS1 := Aside0.mk hs1
    have HG1 := Aside0.mk hg1
    obtain ⟨A1, cc1, q1, q2, q3, q4⟩ := hs1
    have d1 : w1.cell? ⟨g, 1, none⟩ = some (.int .i64 (Rd.fail ⟨[], er⟩ 3).e) := blk_cell q1 1
    generalize (Rd.fail ⟨[], er⟩ 3).e = ee at d1 hne hne2
    clear q1 q2 q3 q4 hg1 c0
    go_wp2
    go_ret
    rw [HF.out]
    exact ⟨rfl, HS1.out, HG1.out⟩
  | cons x t =>
    by_cases he : er = 0
    · subst he
      obtain ⟨A, c, h1, h2, h3, h4⟩ := hs
      have c0 : w.cell? ⟨g, 0, none⟩ = some (.slice A (t.length + 1) c) := blk_cell h1 0
      have c1 : w.cell? ⟨g, 1, none⟩ = some (.int .i64 0) := blk_cell h1 1
      have z0 := blk_frozen h1 0
      obtain ⟨ad, rfl, hx⟩ := at_u8 h3
      obtain ⟨q0, hq0, _, hqsz, _⟩ := info_parts info5
      have hcut := cut_from (P := Try.prog) 51 5 .i64 Try.underlying51 hq0 1 hqsz (some ad) (t.length + 1) c 1 (by omega) (by omega)
      have hM : t.length + 1 ≤ maxLen := h3.2.1
      have hr := Kd.C_drop (c := c) h3 (m := 1) (by simp) h2
      have H := Aside0.mk (And.intro h1 (And.intro h4 hr))
      clear h1 h3 h4 hr
      obtain ⟨B, hB⟩ : ∃ B : Option Addr, B = (if c = (1 : Int).toNat then some ad else (some ad).map (·.add ((1 : Int).toNat * 1))) := ⟨_, rfl⟩
      rw [← hB] at hcut
      have HB := Aside0.mk hB
      clear hB
      have h2' : 1 ≤ c := by simp at h2; omega
      have h2'' : t.length + 1 ≤ c := by simpa using h2
      go_enter Try.func57, Try.ntmps57
      go_wp2
      go_ret
      obtain ⟨h1, h4, hr⟩ := H.out
      have hb2 : B = (if c = 1 then some ad else (some ad).map (·.add (1 * 1))) := HB.out
      rw [show (List.drop 1 (x :: t)) = t from rfl] at hr
      rw [show (Kd.int .u8).sz = 1 from rfl, ← hb2] at hr
      refine ⟨rfl, ⟨B, c - 1, blk_put h1 0 _ rfl, by show t.length ≤ c - 1; omega, Kd.C_keep 0 hr (keepBut_set _ _) ?_, ?_⟩, grown_set _ _ _ _⟩
      all_goals
        intro ad2 e2 hp
        have hbk : ad2.block = ad.block := by
          rw [hb2] at e2
          split at e2
          · exact congrArg Addr.block (Option.some.inj e2).symm
          · have := (Option.some.inj e2).symm
            rw [this]; rfl
        rw [hbk]
        first | exact h4 ad rfl (by simp) | exact (h4 ad rfl (by simp)).2
    · have hb : (er == 0) = false := beq_eq_false_iff_ne.mpr he
      have hb2 : (er != 0) = true := by rw [bne, hb]; rfl
      have HS := Aside0.mk hs
      obtain ⟨A, c, h1, h2, h3, h4⟩ := hs
      have c0 : w.cell? ⟨g, 0, none⟩ = some (.slice A (t.length + 1) c) := blk_cell h1 0
      have c1 : w.cell? ⟨g, 1, none⟩ = some (.int .i64 er) := blk_cell h1 1
      have hM : t.length + 1 ≤ maxLen := h3.2.1
      have hf : nextF ⟨x :: t, er⟩ = (0, ⟨x :: t, er⟩) := by simp [nextF, he]
      have HF := Aside0.mk hf
      clear hf h1 h3 h4 he
      go_enter Try.func57, Try.ntmps57
      go_wp2
      go_ret
      rw [HF.out]
      exact ⟨rfl, HS.out, ⟨rfl, rfl, rfl, Nat.le_refl _, fun _ _ _ => rfl⟩⟩
end Go.Proofs.Ytgmbjgddelcceaa.P
namespace Go.Proofs.Ytgmbjgddelcceaa.P
open Go.RowKit Go.Proofs.YtgmbjgddelcceaaW.PrintWords Go.Proofs.YtgmbjgddelcceaaW.PrintLast Go.Proofs.YtgmbjgddelcceaaW.PrintMore
attribute [local go_sem] max2_int min2_int max_two min_two max_three min_three max_four min_four
set_option linter.unusedVariables false
set_option linter.unusedSimpArgs false
def badB (i c : Int) : Bool := (i == 9 && decide (c > 1)) || (decide (i > 0) && c == 0)
def accN (n i c : Int) : Int := Go.bits .or .u64 n (IntKind.u64.wrap (IntKind.u64.wrap (Go.bits .andNot .u8 c 128) * 2 ^ (7 * i).toNat))
def uintL : Nat → Int → Int → Rd → Int × Rd
  | 0, _, _, s => (0, s)
  | k + 1, i, n, s => if s.e = 0 then
      (if (nextF s).1 < 128 ∧ (if badB i (nextF s).1 then (nextF s).2.fail 2 else (nextF s).2).e = 0 then (accN n i (nextF s).1, if badB i (nextF s).1 then (nextF s).2.fail 2 else (nextF s).2)
        else uintL k (i + 1) (accN n i (nextF s).1) (if badB i (nextF s).1 then (nextF s).2.fail 2 else (nextF s).2))
    else (0, s)
def uintF (s : Rd) : Int × Rd := uintL 11 0 0 s
theorem uintL_end (k : Nat) (i n : Int) (s : Rd) (h : s.e ≠ 0) : uintL k i n s = (0, s) := by
  cases k with
  | zero => rfl
  | succ k => simp only [uintL]; rw [if_neg h]
theorem fail_e (s : Rd) (x : Int) (hx : x ≠ 0) : (s.fail x).e ≠ 0 := by
  unfold Rd.fail
  split
  · exact hx
  · assumption
set_option maxHeartbeats 2000000 in
set_option maxRecDepth 100000 in
theorem ruint_calls {ok : Nat → Prop} (g : Nat) (s0 : Rd) (w : World) (hs : RS ok g s0 w) :
    Calls Try.prog 53 #[.pointer (some ⟨g, 0, none⟩)] w fun e w' => e = .returned (.int .u64 (uintF s0).1) ∧ RS ok g (uintF s0).2 w' ∧ w.grownBy w' (some g) := by
  have HS := Aside0.mk hs
  clear hs
  go_enter Try.func53, Try.ntmps53
  go_wp2
  go_loopg [3, 4] 11 (fun kq v3 v4 wr => ∃ (n i : Int) (s : Rd), v3 = .int .u64 n ∧ v4 = .int .i64 i ∧ Aside0 (0 ≤ i ∧ i + kq = 11) ∧ Aside0 (RS ok g s wr) ∧ Aside0 (i ≤ 9 ∨ s.e ≠ 0) ∧ Aside0 (uintL kq i n s = uintF s0) ∧ Aside0 (w.grownBy wr (some g)))
  case atStart => exact ⟨0, 0, s0, rfl, rfl, ⟨by omega, by omega⟩, HS, ⟨.inl (by omega)⟩, ⟨rfl⟩, ⟨⟨rfl, rfl, rfl, Nat.le_refl _, fun _ _ _ => rfl⟩⟩⟩
  case round =>
    obtain ⟨n, i, s, rfl, rfl, HI, HS, HE, HU, HW⟩ := hrel
    obtain ⟨W, rfl⟩ : ∃ W : World, W = wr := ⟨_, rfl⟩
    obtain ⟨b, er⟩ := s
    obtain ⟨A, c, q1, q2, q3, q4⟩ := HS.out
    have d1 : W.cell? ⟨g, 1, none⟩ = some (.int .i64 er) := blk_cell q1 1
    clear q1 q2 q3 q4
    by_cases he : er = 0
    · subst he
      have h9 : i ≤ 9 := HE.out.resolve_right (by simp)
      have i0 := HI.out.1
      go_wp2_with fail
      refine (next_calls g ⟨b, 0⟩ _ HS.out).mono ?_
      rintro e w1 ⟨rfl, hs1, hg1⟩
      have HS1 := Aside0.mk hs1
      have HG1 := Aside0.mk hg1
      clear hs1 hg1
      obtain ⟨k', rfl⟩ : ∃ k', gk = k' + 1 := by
        cases gk with
        | zero => have := HI.out.2; omega
        | succ k' => exact ⟨k', rfl⟩
      have hu := HU.out
      simp only [uintL] at hu
      rw [if_pos trivial] at hu
      have HV := Aside0.mk hu
      clear hu HU
      generalize nextF ⟨b, 0⟩ = r at HS1 HV
      obtain ⟨c, s1⟩ := r
      simp only at HV
      obtain ⟨b1, e1⟩ := s1
      have d1 : w1.cell? ⟨g, 1, none⟩ = some (.int .i64 e1) := by obtain ⟨A, c, q1, q2, q3, q4⟩ := HS1.out; exact blk_cell q1 1
      obtain ⟨s2, hs2⟩ : ∃ s2 : Rd, s2 = if badB i c then Rd.fail ⟨b1, e1⟩ 2 else ⟨b1, e1⟩ := ⟨_, rfl⟩
      have HS2 := Aside0.mk hs2
      clear hs2
      go_upto_region 6 with fail
      go_cut [28] (fun s28 wx => s28 = .bool (badB i c) ∧ wx = w1)
      case first =>
        by_cases h9' : i = 9
        · subst h9'
          by_cases h2 : c > 1
          · have hq : badB 9 c = true := by simp [badB, h2]
            have HQ := Aside0.mk hq
            clear hq
            go_wp2
            go_meet
            exact ⟨by rw [HQ.out], rfl⟩
          · have h2' : c ≤ 1 := by omega
            have hq : badB 9 c = (c == 0) := by simp [badB, h2]
            have HQ := Aside0.mk hq
            have h2'' : decide (1 < c) = false := decide_eq_false h2
            clear hq h2
            go_wp2
            go_meet
            exact ⟨by rw [HQ.out], rfl⟩
        · have h3 : (i == 9) = false := beq_eq_false_iff_ne.mpr h9'
          by_cases hi : i > 0
          · have hq : badB i c = (c == 0) := by simp [badB, h3, hi]
            have HQ := Aside0.mk hq
            clear hq h9'
            go_wp2
            go_meet
            exact ⟨by rw [HQ.out], rfl⟩
          · have h4 : i ≤ 0 := by omega
            have hq : badB i c = false := by simp [badB, h3, hi]
            have HQ := Aside0.mk hq
            clear hq h9' hi
            go_wp2
            go_meet
            exact ⟨by rw [HQ.out], rfl⟩
      case rest =>
      obtain ⟨rfl, rfl⟩ := hcut
      go_upto_if 28 with fail
      go_cut [] (fun wx => Aside0 (RS ok g s2 wx) ∧ Aside0 (W.grownBy wx (some g)))
      case first =>
        cases hbad : badB i c with
        | true =>
          rw [hbad] at HS2
          go_wp2_with (go_at_call 68; (with_reducible refine (fail_calls g ⟨b1, e1⟩ 2 _ HS1.out).mono ?_); rintro e w2 ⟨rfl, hs3, hg3⟩)
          go_meet
          exact ⟨⟨by rw [HS2.out]; exact hs3⟩, ⟨HG1.out.trans hg3⟩⟩
        | false =>
          rw [hbad] at HS2
          go_wp2
          go_meet
          exact ⟨⟨by rw [HS2.out]; exact HS1.out⟩, HG1⟩
      case rest =>
        obtain ⟨HS3, HG3⟩ := hcut
        clear HS1 HG1 d1
        obtain ⟨w3, rfl⟩ : ∃ w3 : World, w3 = wc := ⟨_, rfl⟩
        have d1 : w3.cell? ⟨g, 1, none⟩ = some (.int .i64 s2.e) := by obtain ⟨A, c, q1, q2, q3, q4⟩ := HS3.out; exact blk_cell q1 1
        obtain ⟨b2, e2⟩ := s2
        have HV2 : Aside0 ((if c < 128 ∧ e2 = 0 then (accN n i c, (⟨b2, e2⟩ : Rd)) else uintL k' (i + 1) (accN n i c) ⟨b2, e2⟩) = uintF s0) := ⟨by have := HV.out; rw [← HS2.out] at this; exact this⟩
        have hbad9 : Aside0 (i = 9 → e2 = 0 → c < 128) := ⟨by
          intro h9 he
          by_cases hc : c > 1
          · have hq : badB i c = true := by simp [badB, h9, hc]
            have := HS2.out
            rw [hq] at this
            simp only [if_true] at this
            have h3 := fail_e ⟨b1, e1⟩ 2 (by decide)
            rw [← this] at h3
            exact absurd he h3
          · omega⟩
        clear HV HS2
        by_cases hc : c < 128
        · by_cases he : e2 = 0
          · subst he
            have hd : decide (c < 128) = true := decide_eq_true hc
            go_wp2
            go_ret
            have h := HV2.out
            rw [if_pos ⟨hc, trivial⟩] at h
            rw [← h]
            exact ⟨rfl, HS3.out, HW.out.trans HG3.out⟩
          · have hd : decide (c < 128) = true := decide_eq_true hc
            have he' : (e2 == 0) = false := beq_eq_false_iff_ne.mpr he
            have HE2 := Aside0.mk he
            clear he
            have hwi : wrap64 (i + 1) = i + 1 := by unfold wrap64; omega
            go_wp2
            go_roundg k'
            case measure => omega
            case rel =>
              have h := HV2.out
              rw [if_neg (fun h => HE2.out h.2)] at h
              exact ⟨accN n i c, i + 1, ⟨b2, e2⟩, rfl, rfl, ⟨by have := HI.out; omega, by have := HI.out; omega⟩, HS3, ⟨.inr HE2.out⟩, ⟨h⟩, ⟨HW.out.trans HG3.out⟩⟩
        · have hd : decide (c < 128) = false := decide_eq_false hc
          have hwi : wrap64 (i + 1) = i + 1 := by unfold wrap64; omega
          have HC := Aside0.mk hc
          clear hc
          go_wp2
          go_roundg k'
          case measure => omega
          case rel =>
            have h := HV2.out
            rw [if_neg (fun h => by have := HC.out; have := h.1; omega)] at h
            refine ⟨accN n i c, i + 1, ⟨b2, e2⟩, rfl, rfl, ⟨by have := HI.out; omega, by have := HI.out; omega⟩, HS3, ⟨?_⟩, ⟨h⟩, ⟨HW.out.trans HG3.out⟩⟩
            by_cases h9 : i = 9
            · right
              intro he
              have := HC.out; have := hbad9.out h9 he; omega
            · left; omega
    · have he' : (er == 0) = false := beq_eq_false_iff_ne.mpr he
      have HE2 := Aside0.mk he
      clear he
      go_wp2
      go_ret
      have h := HU.out
      rw [uintL_end _ _ _ _ HE2.out] at h
      rw [← h]
      exact ⟨rfl, HS.out, HW.out⟩
end Go.Proofs.Ytgmbjgddelcceaa.P
namespace Go.Proofs.Ytgmbjgddelcceaa.P
open Go.RowKit Go.Proofs.YtgmbjgddelcceaaW.PrintWords Go.Proofs.YtgmbjgddelcceaaW.PrintLast Go.Proofs.YtgmbjgddelcceaaW.PrintMore
attribute [local go_sem] max2_int min2_int max_two min_two max_three min_three max_four min_four
attribute [local go_sem] Go.Lib.run_eql_slice_nil
set_option linter.unusedVariables false
set_option linter.unusedSimpArgs false
theorem grown_drewN {w w1 : World} {row : Option Nat} (h : w.grownBy w1 row) (n : Nat) : w.grownBy (w1.drewN n) row := ⟨h.os, h.tape, h.output, h.size, h.block⟩
def unzigF (z : Int) : Int := Go.bits .xor .i64 (wrap64 (z / 2)) (wrap64 (-(wrap64 (Go.bits .and .u64 z 1))))
def rintF (s : Rd) : Int × Rd := (unzigF (uintF s).1, (uintF s).2)
set_option maxHeartbeats 1000000 in
theorem rint_calls {ok : Nat → Prop} (g : Nat) (s : Rd) (w : World) (hs : RS ok g s w) :
    Calls Try.prog 52 #[.pointer (some ⟨g, 0, none⟩)] w fun e w' => e = .returned (.int .i64 (rintF s).1) ∧ RS ok g (rintF s).2 w' ∧ w.grownBy w' (some g) := by
  have HS := Aside0.mk hs
  clear hs
  go_enter Try.func52, Try.ntmps52
  go_wp2_with (first | (go_at_call 53; (with_reducible refine (ruint_calls g s _ HS.out).mono ?_); rintro e w1 ⟨rfl, hs1, hg1⟩; have HS1 := Aside0.mk (And.intro hs1 hg1); clear hs1 hg1) | (go_at_call 67; (with_reducible refine (wire_unzigzag.calls (uintF s).1 (unzigF (uintF s).1) _ rfl).mono ?_); rintro e w2 ⟨rfl, ⟨nd, rfl⟩⟩))
  go_ret
  exact ⟨rfl, HS1.out.1.drawn _, grown_drewN HS1.out.2 _⟩
theorem RS.narrow {ok : Nat → Prop} {g : Nat} {s : Rd} {W : World} (h : RS ok g s W) : RS (fun k => ok k ∧ k < W.heap.size) g s W := by
  obtain ⟨A, c, h1, h2, h3, h4⟩ := h
  refine ⟨A, c, h1, h2, h3, fun ad e hp => ⟨⟨(h4 ad e hp).1, ?_⟩, (h4 ad e hp).2⟩⟩
  obtain ⟨ad', e', hc⟩ := Kd.at_int h3 0 (by omega) (by omega)
  rw [e] at e'
  obtain rfl := Option.some.inj e'
  have := World.block_lt_of_cell? _ _ hc
  simpa [Addr.add] using this
theorem RS.mono {ok ok' : Nat → Prop} {g : Nat} {s : Rd} {W : World} (h : RS ok g s W) (hk : ∀ k, ok k → ok' k) : RS ok' g s W := by
  obtain ⟨A, c, h1, h2, h3, h4⟩ := h
  exact ⟨A, c, h1, h2, h3, fun ad e hp => ⟨hk _ (h4 ad e hp).1, (h4 ad e hp).2⟩⟩
theorem RS.grown {ok : Nat → Prop} {g : Nat} {s : Rd} {W W1 : World} {row : Option Nat} (h : RS ok g s W) (hg : W.grownBy W1 row) (hne : some g ≠ row) (hok : ∀ k, ok k → some k ≠ row) : RS ok g s W1 := by
  obtain ⟨A, c, h1, h2, h3, h4⟩ := h
  refine ⟨A, c, (hg.block g (blk_lt h1) hne).trans h1, h2, ?_, h4⟩
  cases row with
  | none => exact Kd.C_keep (W := W1) (g := W.heap.size) 0 h3 ⟨hg.size, fun k hk _ _ => hg.block k hk (by simp)⟩ (fun ad e hp => by
      obtain ⟨ad', e', hc⟩ := Kd.at_int h3 0 (by omega) (by omega)
      rw [e] at e'
      obtain rfl := Option.some.inj e'
      have := World.block_lt_of_cell? _ _ hc
      simp [Addr.add] at this
      omega)
  | some r => exact Kd.C_keep (W := W1) (g := r) 0 h3 ⟨hg.size, fun k hk hne _ => hg.block k hk (fun e => hne (Option.some.inj e))⟩ (fun ad e hp => fun e' => hok _ (h4 ad e hp).1 (by rw [e']))
def lenBad (z : Int) (s : Rd) : Bool := decide (z > (s.b.length : Int))
def listF (s : Rd) : List Int × Rd :=
  if (if lenBad (uintF s).1 (uintF s).2 then (uintF s).2.fail 3 else (uintF s).2).e = 0 then ((uintF s).2.b.take (uintF s).1.toNat, ⟨(uintF s).2.b.drop (uintF s).1.toNat, 0⟩)
  else ([], if lenBad (uintF s).1 (uintF s).2 then (uintF s).2.fail 3 else (uintF s).2)
theorem R_below_ne {w : World} {base : Nat} {ok : Nat → Prop} {v : Value} {bs : List Int} (h : Kd.R (Kd.int .u8) 5 w base ok v bs) (k : Nat) (hk : k < base) : some k ≠ v.ownBlock := by
  obtain ⟨inner, ho⟩ := Kd.R_own h
  intro e
  have := own_base ho k e.symm
  omega
theorem uintL_nn : ∀ (k : Nat) (i n : Int) (s : Rd), 0 ≤ n → 0 ≤ (uintL k i n s).1
  | 0, _, _, _, _ => Int.le_refl _
  | k + 1, i, n, s, h => by
    have hb : 0 ≤ accN n i (nextF s).1 := by
      have h : (Lit.int .u64 (accN n i (nextF s).1)).wf = true := wf_bits _ _ _ _
      simp [Lit.wf, IntKind.min, IntKind.max, IntKind.signed, IntKind.bits] at h
      omega
    simp only [uintL]
    generalize (if badB i (nextF s).1 then (nextF s).2.fail 2 else (nextF s).2) = s2
    split
    · split
      · exact hb
      · exact uintL_nn k _ _ _ hb
    · exact Int.le_refl _
set_option maxHeartbeats 4000000 in
set_option maxRecDepth 100000 in
theorem list_calls {ok : Nat → Prop} (g : Nat) (s : Rd) (w : World) (hs : RS ok g s w) (hl : s.b.length ≤ 1000000000) (hul : (uintF s).2.b.length ≤ 1000000000) :
    Calls Try.prog 56 #[.pointer (some ⟨g, 0, none⟩), .func (.func 57) #[.pointer (some ⟨g, 0, none⟩)] #[]] w fun e w' => ∃ v, e = .returned v ∧ Kd.R (Kd.int .u8) 5 w' w.heap.size (fun k => k ≠ g) v (listF s).1 ∧ RS (fun k => ok k ∧ k < w.heap.size) g (listF s).2 w' ∧ w.grownBy w' (some g) := by
  have HS := Aside0.mk hs.narrow
  have hgl := hs.lt
  clear hs
  go_enter Try.func56, Try.ntmps56
  go_wp2_with fail
  refine (ruint_calls g s _ HS.out).mono ?_
  rintro e w1 ⟨rfl, hs1, hg1⟩
  have HS1 := Aside0.mk hs1
  have HG1 := Aside0.mk hg1
  have HQ : Aside0 (listF s = if (if lenBad (uintF s).1 (uintF s).2 then (uintF s).2.fail 3 else (uintF s).2).e = 0 then ((uintF s).2.b.take (uintF s).1.toNat, ⟨(uintF s).2.b.drop (uintF s).1.toNat, 0⟩)
    else ([], if lenBad (uintF s).1 (uintF s).2 then (uintF s).2.fail 3 else (uintF s).2)) := ⟨rfl⟩
  have hnn : 0 ≤ (uintF s).1 := uintL_nn 11 0 0 s (by omega)
  clear hs1 hg1
  generalize uintF s = r at HS1 HQ hnn hul
  obtain ⟨n, b1, e1⟩ := r
  simp only at HS1 HQ hnn hul
  obtain ⟨A, c, q1, q2, q3, q4⟩ := HS1.out
  have c0 : w1.cell? ⟨g, 0, none⟩ = some (.slice A b1.length c) := blk_cell q1 0
  clear q1 q2 q3 q4
  have hwl : IntKind.u64.wrap (b1.length : Int) = (b1.length : Int) := by
    have : IntKind.u64.wrap (b1.length : Int) = (b1.length : Int) % 18446744073709551616 := by simp [IntKind.wrap, IntKind.signed, IntKind.bits]
    rw [this]; omega
  obtain ⟨s2, hs2⟩ : ∃ s2 : Rd, s2 = if lenBad n ⟨b1, e1⟩ then Rd.fail ⟨b1, e1⟩ 3 else ⟨b1, e1⟩ := ⟨_, rfl⟩
  rw [← hs2] at HQ
  have HS2 := Aside0.mk hs2
  clear hs2
  go_upto_if 17 with fail
  go_cut [] (fun wx => Aside0 (RS (fun k => ok k ∧ k < w.heap.size) g s2 wx) ∧ Aside0 (w.grownBy wx (some g)))
  case first =>
    by_cases hlt : (b1.length : Int) < n
    · have hb : lenBad n ⟨b1, e1⟩ = true := decide_eq_true hlt
      rw [hb] at HS2
      clear hb
      go_wp2_with (go_at_call 68; (with_reducible refine (fail_calls g ⟨b1, e1⟩ 3 _ HS1.out).mono ?_); rintro e w2 ⟨rfl, hs3, hg3⟩)
      go_meet
      exact ⟨⟨by rw [HS2.out]; exact hs3⟩, ⟨HG1.out.trans hg3⟩⟩
    · have hb : lenBad n ⟨b1, e1⟩ = false := decide_eq_false hlt
      rw [hb] at HS2
      clear hb
      go_wp2
      go_meet
      exact ⟨⟨by rw [HS2.out]; exact HS1.out⟩, HG1⟩
  case rest =>
    obtain ⟨HS3, HG3⟩ := hcut
    have HN : Aside0 (s2.e = 0 → n ≤ b1.length ∧ s2.b = b1) := ⟨by
      intro he
      have h := HS2.out
      cases hb : lenBad n ⟨b1, e1⟩ with
      | true =>
        rw [hb] at h
        simp only [if_true] at h
        have := fail_e ⟨b1, e1⟩ 3 (by decide)
        rw [← h] at this
        exact absurd he this
      | false =>
        rw [hb] at h
        simp only [Bool.false_eq_true, if_false] at h
        have := of_decide_eq_false hb
        rw [h]
        exact ⟨by simp only at this; omega, rfl⟩⟩
    clear HS1 HG1 c0 HS2
    obtain ⟨b2, e2⟩ := s2
    obtain ⟨w3, rfl⟩ : ∃ w3 : World, w3 = wc := ⟨_, rfl⟩
    by_cases he : e2 = 0
    · subst he
      obtain ⟨hn, rfl⟩ := HN.out rfl
      have HQ2 : Aside0 (listF s = (b2.take n.toNat, ⟨b2.drop n.toNat, 0⟩)) := ⟨by have := HQ.out; rwa [if_pos rfl] at this⟩
      clear HQ HN
      go_wp2
      go_loopw [6, 7] (fun v6 v7 wr => ∃ (i : Int) (A6 : Option Addr) (m6 c6 : Nat), v6 = .slice A6 m6 c6 ∧ v7 = .int .u64 i ∧ Aside0 (0 ≤ i ∧ i ≤ n) ∧ Aside0 (Kd.R (Kd.int .u8) 5 wr w.heap.size (fun k => k ≠ g) (.slice A6 m6 c6) (b2.take i.toNat)) ∧ Aside0 (RS (fun k => ok k ∧ k < w.heap.size) g ⟨b2.drop i.toNat, 0⟩ wr) ∧ Aside0 (w.grownBy wr (some g))) (fun _ v7 _ => (n - intOf v7).toNat)
      case atStart => exact ⟨0, none, 0, 0, rfl, rfl, ⟨by omega, hnn⟩, ⟨Kd.R_nil _ _ _ _ _⟩, HS3, HG3⟩
      case round =>
        obtain ⟨i, A6, m6, c6, rfl, rfl, HI, HO, HR, HW⟩ := hrel
        obtain ⟨W, rfl⟩ : ∃ W : World, W = wr := ⟨_, rfl⟩
        have i0 := HI.out.1
        have d1 : W.cell? ⟨g, 1, none⟩ = some (.int .i64 0) := by obtain ⟨A, c, q1, q2, q3, q4⟩ := HR.out; exact blk_cell q1 1
        by_cases hlt : i < n
        · have hdr : b2.drop i.toNat = rd b2 i :: b2.drop (i + 1).toNat := by
            rw [show (i + 1).toNat = i.toNat + 1 from by omega, List.drop_eq_getElem_cons (show i.toNat < b2.length by omega)]
            congr 1
            simp [rd, List.getD_eq_getElem?_getD, List.getElem?_eq_getElem (show i.toNat < b2.length by omega)]
          have htk : b2.take (i + 1).toNat = b2.take i.toNat ++ [rd b2 i] := by
            rw [show (i + 1).toNat = i.toNat + 1 from by omega, List.take_succ_eq_append_getElem (show i.toNat < b2.length by omega)]
            congr 1
            simp [rd, List.getD_eq_getElem?_getD, List.getElem?_eq_getElem (show i.toNat < b2.length by omega)]
          have hnx : nextF ⟨b2.drop i.toNat, 0⟩ = (rd b2 i, ⟨b2.drop (i + 1).toNat, 0⟩) := by rw [hdr]; simp [nextF]
          have HTK := Aside0.mk htk
          have HNX := Aside0.mk hnx
          clear hdr htk hnx
          have hwi : IntKind.u64.wrap (i + 1) = i + 1 := by
            have : IntKind.u64.wrap (i + 1) = (i + 1) % 18446744073709551616 := by simp [IntKind.wrap, IntKind.signed, IntKind.bits]
            rw [this]; omega
          go_wp2_with fail
          refine (next_calls g ⟨b2.drop i.toNat, 0⟩ _ HR.out).mono ?_
          rw [HNX.out]
          rintro e w4 ⟨rfl, hs4, hg4⟩
          have HS4 := Aside0.mk hs4
          have HG4 := Aside0.mk hg4
          have HO4 := Aside0.mk (Kd.R_grown HO.out hg4 (fun k hk e => hk (Option.some.inj e)))
          have hsz := Aside0.mk hg4.size
          clear hs4 hg4
          have hbase : w.heap.size ≤ w4.heap.size := Nat.le_trans HW.out.size hsz.out
          go_wp2_with (at_builtin; refine Kd.R_append (Kd.int .u8) (w0 := w4) w.heap.size rfl (.tmp 32) (.tmp 35) 51 5 (.int .u8 0) 1 rfl Try.underlying51 info5 rfl (by decide) (by omega) (.slice A6 m6 c6) (b2.take i.toNat) (rd b2 i) [.int .u8 (rd b2 i)] (fun k => k ≠ g) (fun _ => False) rfl rfl ?aP (fun _ hk => hk.elim) ?aF HO4.out ?aB ?aS ?aL ?_; (case aP => exact rfl); (case aF => exact fun k hk => by omega); (case aB => exact Below.refl _ _); (case aS => exact hbase); (case aL => rw [List.length_take]; omega); intro v1 w5 ho hb hg hat; have HO5 := Aside0.mk ho; have HG5 := Aside0.mk hg; have hne := Aside0.mk (fun k (hk : k < w.heap.size) => R_below_ne HO4.out k hk); clear ho hb hg hat; obtain ⟨A7, c7, rfl⟩ := Kd.R_slice HO5.out)
          go_roundw
          case rel =>
            refine ⟨i + 1, A7, _, c7, rfl, rfl, ⟨by omega, by omega⟩, ⟨by rw [HTK.out]; simpa using HO5.out⟩, ⟨HS4.out.grown HG5.out (hne.out g hgl) (fun k hk => hne.out k hk.2)⟩, ⟨?_⟩⟩
            refine (HW.out.trans HG4.out).andThen HG5.out (fun j hj => .inl ?_)
            have := R_below_ne HO4.out j
            rcases Nat.lt_or_ge j w.heap.size with h | h
            · exact absurd hj.symm (this h)
            · exact h
          case measure => simp [intOf, hwi]; omega
        · have hi : i = n := by have := HI.out; omega
          subst hi
          go_wp2
          go_ret
          rw [HQ2.out]
          exact ⟨_, rfl, HO.out, HR.out, HW.out⟩
    · have he' : (e2 == 0) = false := beq_eq_false_iff_ne.mpr he
      have he2 : (e2 != 0) = true := by rw [bne, he']; rfl
      have HQ2 : Aside0 (listF s = ([], ⟨b2, e2⟩)) := ⟨by have := HQ.out; rwa [if_neg he] at this⟩
      have d1 : w3.cell? ⟨g, 1, none⟩ = some (.int .i64 e2) := by obtain ⟨A, c, q1, q2, q3, q4⟩ := HS3.out; exact blk_cell q1 1
      clear he HQ HN
      go_wp2
      refine wp_loop_rounds 1 ?_
      rw [rounds_succ]
      go_wp2
      all_goals
        go_ret
        rw [HQ2.out]
        exact ⟨_, rfl, Kd.R_nil _ _ _ _ _, HS3.out, HG3.out⟩
def endF (s : Rd) : Int := if s.e = 0 ∧ 0 < s.b.length then 2 else s.e
set_option maxHeartbeats 2000000 in
set_option maxRecDepth 100000 in
theorem clone_calls2 (A : Option Addr) (c : Nat) (bs : List Int) (w : World) (hC : Kd.C (Kd.int .u8) w A bs.length bs) (hc : bs.length ≤ c) (hl : bs.length ≤ 1000000000) :
    Calls Try.prog 51 #[.slice A bs.length c] w fun e w' => ∃ v, e = .returned v ∧ Kd.R (Kd.int .u8) 5 w' w.heap.size (fun _ => True) v bs ∧ Below w.heap.size w w' := by
  have hu51 := Try.underlying51
  have HC := Aside0.mk hC
  clear hC
  cases A with
  | none =>
    have h0 : bs = [] := by
      cases bs with
      | nil => rfl
      | cons b bs =>
        obtain ⟨ad, e, _⟩ := HC.out.2.2 (by simp)
        cases e
    subst h0
    go_enter Try.func51, Try.ntmps51
    go_wp2
    go_ret
    exact ⟨_, rfl, Kd.R_nil _ _ _ _ _, Below.refl _ _⟩
  | some ad =>
    go_enter Try.func51, Try.ntmps51
    go_wp2_with (at_builtin; refine Kd.R_append_rows (Kd.int .u8) (w0 := w) w.heap.size rfl (.tmp 5) (.tmp 6) 51 5 (.int .u8 0) 1 rfl Try.underlying51 info5 rfl (by decide) (by omega) _ [] bs _ _ _ (fun _ => True) (fun _ => False) rfl rfl ?aO ?aR (fun _ _ h => h) (fun _ h => h.elim) (fun _ _ => trivial) ?aB ?aS ?aL ?_; (case aO => exact emptyR w); (case aR => exact Kd.C_alloc HC.out _); (case aB => exact below_alloc (Below.refl _ _) _); (case aS => simp); (case aL => simp; omega); intro v1 w2 ho hb hg hat; obtain ⟨A1, c1, rfl⟩ := Kd.R_slice ho)
    go_ret
    exact ⟨_, rfl, ho, hb⟩
set_option maxHeartbeats 1000000 in
theorem raw_calls {ok : Nat → Prop} (g : Nat) (s : Rd) (w : World) (hs : RS ok g s w) (hl : s.b.length ≤ 1000000000) (hul : (uintF s).2.b.length ≤ 1000000000) :
    Calls Try.prog 31 #[.pointer (some ⟨g, 0, none⟩)] w fun e w' => ∃ v, e = .returned v ∧ Kd.R (Kd.int .u8) 5 w' w.heap.size (fun k => k ≠ g) v (listF s).1 ∧ RS (fun k => ok k ∧ k < w.heap.size) g (listF s).2 w' ∧ w.grownBy w' (some g) := by
  have HS := Aside0.mk hs
  clear hs
  go_enter Try.func31, Try.ntmps31
  go_wp2_with (go_at_call 56; (with_reducible refine (list_calls g s _ HS.out hl hul).mono ?_); rintro e w1 ⟨v, rfl, hR, hS, hG⟩; have HH := Aside0.mk (And.intro hR (And.intro hS hG)); clear hR hS hG)
  go_ret
  exact ⟨_, rfl, HH.out.1, HH.out.2.1, HH.out.2.2⟩
set_option maxHeartbeats 1000000 in
theorem read_calls (A : Option Addr) (c : Nat) (bs : List Int) (w : World) (hR : Kd.C (Kd.int .u8) w A bs.length bs) (hc : bs.length ≤ c) (hl : bs.length ≤ 1000000000) :
    Calls Try.prog 28 #[.slice A bs.length c] w fun e w' => ∃ g, e = .returned (.pointer (some ⟨g, 0, none⟩)) ∧ RS (fun k => w.heap.size ≤ k) g ⟨bs, 0⟩ w' ∧ w.heap.size ≤ g ∧ Below w.heap.size w w' := by
  have HR := Aside0.mk hR
  clear hR
  go_enter Try.func28, Try.ntmps28
  go_wp2_with (go_at_call 51; (with_reducible refine (clone_calls2 A c bs _ HR.out hc hl).mono ?_); rintro e w1 ⟨v, rfl, hR, hB⟩; have HH := Aside0.mk (And.intro hR hB); clear hR hB; obtain ⟨A1, c1, rfl⟩ := Kd.R_slice HH.out.1)
  go_ret
  obtain ⟨hR, hB⟩ := HH.out
  obtain ⟨_, hcc, hC⟩ := Kd.R_reads' hR
  refine ⟨_, rfl, ⟨A1, c1, blk_new _ _, hcc, Kd.C_alloc hC _, fun ad e hp => ?_⟩, hB.size, hB.alloc hB.size _⟩
  subst e
  obtain ⟨gg, cap, hv, hg1, hg2, _⟩ := Kd.R_form hR hp
  have e1 : ad = ⟨gg, 0, none⟩ := by injection hv with h1; exact Option.some.inj h1
  rw [e1]
  exact ⟨hg1, by show gg ≠ _; omega⟩
set_option maxHeartbeats 1000000 in
theorem end_calls {ok : Nat → Prop} (g : Nat) (s : Rd) (w : World) (hs : RS ok g s w) :
    Calls Try.prog 54 #[.pointer (some ⟨g, 0, none⟩)] w fun e w' => e = .returned (.int .i64 (endF s)) ∧ w = w' := by
  obtain ⟨b, er⟩ := s
  obtain ⟨A, c, q1, q2, q3, q4⟩ := hs
  have c0 : w.cell? ⟨g, 0, none⟩ = some (.slice A b.length c) := blk_cell q1 0
  have c1 : w.cell? ⟨g, 1, none⟩ = some (.int .i64 er) := blk_cell q1 1
  clear q1 q2 q3 q4
  by_cases he : er = 0
  · subst he
    by_cases hb : 0 < b.length
    · have hf : endF ⟨b, 0⟩ = 2 := by simp [endF, hb]
      rw [hf]
      clear hf
      go_enter Try.func54, Try.ntmps54
      go_wp2
      go_ret
      exact ⟨rfl, rfl⟩
    · have hf : endF ⟨b, 0⟩ = 0 := by simp [endF, hb]
      have h0 : b.length = 0 := by omega
      rw [h0] at c0
      rw [hf]
      clear hf hb h0
      go_enter Try.func54, Try.ntmps54
      go_wp2
      go_ret
      exact ⟨rfl, rfl⟩
  · have hf : endF ⟨b, er⟩ = er := by simp [endF, he]
    have he' : (er == 0) = false := beq_eq_false_iff_ne.mpr he
    rw [hf]
    clear hf he
    go_enter Try.func54, Try.ntmps54
    go_wp2
    go_ret
    exact ⟨rfl, rfl⟩
end Go.Proofs.Ytgmbjgddelcceaa.P
