import Derived.Test.YtgmbjgddelcceaaUPlainD
import Derived.Test.YtgmbjgddelcceaaUPx10
import Derived.Test.YtgmbjgddelcceaaUGivenX
import Derived.Test.YtgmbjgddelcceaaUGivenY
import Derived.Lib.Zigzag
import Derived.Laws.BitsAllLaws
set_option linter.unusedVariables false
set_option linter.unusedSimpArgs false
namespace Go.Proofs.Ytgmbjgddelcceaa.P
open Go.RowKit Go.Proofs.YtgmbjgddelcceaaW.PrintWords Go.Proofs.YtgmbjgddelcceaaW.PrintLast
/-- A source whose scene and parameters are machine numbers. -/
def uOk (s : S71) : Prop := (0 ≤ s.f3 ∧ s.f3 < 18446744073709551616) ∧ (-9223372036854775808 ≤ s.f0 ∧ s.f0 ≤ 9223372036854775807)
theorem u64_ok (x : Int) : 0 ≤ IntKind.u64.wrap x ∧ IntKind.u64.wrap x < 18446744073709551616 := by
  have h : IntKind.u64.wrap x = x % 18446744073709551616 := by simp [IntKind.wrap, IntKind.signed, IntKind.bits]
  rw [h]; omega
theorem w64_ok (x : Int) : -9223372036854775808 ≤ wrap64 x ∧ wrap64 x ≤ 9223372036854775807 := by unfold wrap64; omega
theorem sources_uOk : ∀ k : Nat,
    (∀ x0 x3 x4 r, (∀ s ∈ x3, uOk s) → skymosaicref36_Sources.l0 k x0 x3 x4 = some r → ∀ s ∈ r, uOk s) ∧
    (∀ x0 x3 x4 x5 x7 x8 a b c d r, (∀ s ∈ x3, uOk s) → (0 ≤ d ∧ d < 18446744073709551616) → (-9223372036854775808 ≤ a ∧ a ≤ 9223372036854775807) → skymosaicref36_Sources.j1 k x0 x3 x4 x5 x7 x8 a b c d = some r → ∀ s ∈ r, uOk s) ∧
    (∀ x0 x3 x4 x7 x8 x9 x10 a b c d r, (∀ s ∈ x3, uOk s) → (0 ≤ d ∧ d < 18446744073709551616) → (-9223372036854775808 ≤ a ∧ a ≤ 9223372036854775807) → skymosaicref36_Sources.l1 k x0 x3 x4 x7 x8 x9 x10 a b c d = some r → ∀ s ∈ r, uOk s) := by
  intro k
  induction k with
  | zero => exact ⟨fun _ _ _ _ _ h => (by cases h), fun _ _ _ _ _ _ _ _ _ _ _ _ _ _ h => (by cases h), fun _ _ _ _ _ _ _ _ _ _ _ _ _ _ _ h => (by cases h)⟩
  | succ k ih =>
    obtain ⟨ih0, ih1, ih2⟩ := ih
    refine ⟨?_, ?_, ?_⟩
    · intro x0 x3 x4 r hx h
      unfold skymosaicref36_Sources.l0 at h
      split at h
      · split at h
        · cases h
        · obtain ⟨t, ht, h⟩ := Option.bind_eq_some_iff.mp h
          split at h
          · exact ih1 _ _ _ _ _ _ _ _ _ _ _ hx (u64_ok _) (w64_ok _) h
          · exact ih1 _ _ _ _ _ _ _ _ _ _ _ hx ⟨by decide, by decide⟩ (w64_ok _) h
      · obtain rfl := Option.some.inj h
        exact hx
    · intro x0 x3 x4 x5 x7 x8 a b c d r hx hd ha h
      unfold skymosaicref36_Sources.j1 at h
      exact ih2 _ _ _ _ _ _ _ _ _ _ _ _ hx hd ha h
    · intro x0 x3 x4 x7 x8 x9 x10 a b c d r hx hd ha h
      unfold skymosaicref36_Sources.l1 at h
      split at h
      · split at h
        · split at h
          · simp only [skymosaicref36_next.f, Option.bind_some] at h
            refine ih2 _ _ _ _ _ _ _ _ _ _ _ _ ?_ hd ha h
            intro s hs
            rcases List.mem_append.1 hs with hs | hs
            · exact hx s hs
            · obtain rfl := List.mem_singleton.1 hs
              exact ⟨hd, ha⟩
          · cases h
        · exact ih0 _ _ _ _ hx h
      · exact ih0 _ _ _ _ hx h
theorem sources_params {l : List Int} {s : List S71} (h : Ev (fun k => skymosaicref36_Sources.f k l) s) : ∀ x ∈ s, uOk x := by
  obtain ⟨k, hk⟩ := h.rounds
  exact (sources_uOk k).1 l [] 0 s (fun x hx => by cases hx) hk
theorem samebytes_loop (l : List Int) (hl : l.length ≤ 1000000) : ∀ (d : Nat) (i : Int), (l.length : Int) - i = d → 0 ≤ i → Ev (fun k => skymosaicref01_SameBytes.l0 k l l i) true := by
  intro d
  induction d with
  | zero =>
    intro i hd h0
    refine Ev.step (f := fun _ => some true) (fun k => ?_) (Ev.now _)
    conv => lhs; unfold skymosaicref01_SameBytes.l0
    rw [if_neg (by omega)]
  | succ d ih =>
    intro i hd h0
    refine Ev.step (f := fun k => skymosaicref01_SameBytes.l0 k l l (i + 1)) (fun k => ?_) (ih (i + 1) (by omega) (by omega))
    conv => lhs; unfold skymosaicref01_SameBytes.l0
    rw [if_pos (by omega), if_pos h0, if_pos (by omega), if_pos rfl, w64 (by omega)]
theorem samebytes_ends (l : List Int) (hl : l.length ≤ 1000000) : Ev (fun k => skymosaicref01_SameBytes.f k l l) true := by
  refine Ev.congr (f := fun k => skymosaicref01_SameBytes.l0 k l l 0) (fun k => ?_) (samebytes_loop l hl l.length 0 (by omega) (by omega))
  unfold skymosaicref01_SameBytes.f
  rw [if_pos rfl]
theorem or128 : ∀ b : Fin 256, Go.bits .or .u8 ((b.val : Nat) : Int) 128 = 128 + ((b.val : Nat) : Int) % 128 := by decide +kernel
theorem more_eq (n : Int) (h0 : 0 ≤ n) (h : n < 18446744073709551616) : moreB n = (IntKind.u64.wrap (128 + Int.tmod n 128)) % 256 := by
  have h1 := or128 ⟨(n % 256).toNat, by omega⟩
  have h2 : (((n % 256).toNat : Nat) : Int) = n % 256 := by omega
  simp only [h2] at h1
  unfold moreB
  rw [h1, Int.tmod_eq_emod_of_nonneg h0]
  have h3 : IntKind.u64.wrap (128 + n % 128) = (128 + n % 128) % 18446744073709551616 := by simp [IntKind.wrap, IntKind.signed, IntKind.bits]
  rw [h3]; omega
theorem ruint_loop : ∀ (j : Nat) (n : Int) (cs : List Int), 0 ≤ n → n < 18446744073709551616 → n < 128 * 128 ^ j → cs.length + j ≤ 1000000 → Ev (fun k => skymosaicref02_Uint.l0 k n cs) (cs ++ uintB j n) := by
  have fin : ∀ (j : Nat) (n : Int) (cs : List Int), ¬ 128 ≤ n → cs.length + j ≤ 1000000 → Ev (fun k => skymosaicref02_Uint.l0 k n cs) (cs ++ uintB j n) := by
    intro j n cs hn hl
    rw [uintB_end j n hn]
    refine Ev.step (f := fun _ => some (cs ++ [n % 256])) (fun k => ?_) (Ev.now _)
    conv => lhs; unfold skymosaicref02_Uint.l0
    rw [if_neg (by omega), if_pos (by omega)]
  intro j
  induction j with
  | zero => intro n cs h0 h1 h2 hl; exact fin 0 n cs (by omega) hl
  | succ j ih =>
    intro n cs h0 h1 h2 hl
    by_cases hn : 128 ≤ n
    · have hq : (128 : Int) ^ (j + 1) = 128 ^ j * 128 := Int.pow_succ _ _
      rw [hq] at h2
      have hs := ih (n / 128) (cs ++ [moreB n]) (by omega) (by omega) (by generalize (128 : Int) ^ j = q at h2 ⊢; omega) (by simp; omega)
      simp only [uintB]
      rw [if_pos hn]
      rw [List.append_assoc] at hs
      refine Ev.step (f := fun k => skymosaicref02_Uint.l0 k (n / 128) (cs ++ [moreB n])) (fun k => ?_) hs
      conv => lhs; unfold skymosaicref02_Uint.l0
      have h3 : IntKind.u64.wrap (Int.tdiv n 128) = n / 128 := by
        rw [Int.tdiv_eq_ediv_of_nonneg h0]
        have : IntKind.u64.wrap (n / 128) = (n / 128) % 18446744073709551616 := by simp [IntKind.wrap, IntKind.signed, IntKind.bits]
        rw [this]; omega
      rw [if_pos (by omega), if_pos (by omega), h3, more_eq n h0 h1]
    · exact fin (j + 1) n cs hn hl
theorem ruint_ends (n : Int) (h0 : 0 ≤ n) (h1 : n < 18446744073709551616) : Ev (fun k => skymosaicref02_Uint.f k n) (uintB 9 n) := by
  have := ruint_loop 9 n [] h0 h1 (Int.lt_of_lt_of_le h1 (by decide)) (by simp)
  exact (by simpa using this : Ev (fun k => skymosaicref02_Uint.l0 k n []) (uintB 9 n))
theorem w_u64 (x : Int) : IntKind.u64.wrap x = x % 18446744073709551616 := by simp [IntKind.wrap, IntKind.signed, IntKind.bits]
theorem zig_eq (a : Int) (h : -9223372036854775808 ≤ a ∧ a ≤ 9223372036854775807) : skymosaicref02_Zigzag.f a = some (zigF a) := by
  unfold skymosaicref02_Zigzag.f zigF
  rw [w_u64 a, w_u64 (a % 18446744073709551616 * 2), w_u64 (a / 9223372036854775808)]
  by_cases hn : a < 0
  · rw [if_pos hn, w64 (x := a + 1) (by omega), w64 (by omega)]
    rw [u64_xor _ _ (by omega) (by omega) (by omega) (by omega)]
    have e1 : (a / 9223372036854775808 % 18446744073709551616).toNat = 2 ^ 64 - 1 := by omega
    have e2 : (a % 18446744073709551616 * 2 % 18446744073709551616).toNat = (2 * a + 18446744073709551616).toNat := by omega
    rw [e1, e2, Nat.xor_comm, Go.Lib.xor_ones64 _ (by omega)]
    simp only [w_u64]
    congr 1
    omega
  · rw [if_neg hn]
    rw [u64_xor _ _ (by omega) (by omega) (by omega) (by omega)]
    have e1 : (a / 9223372036854775808 % 18446744073709551616).toNat = 0 := by omega
    rw [e1, Nat.xor_zero]
    simp only [w_u64]
    congr 1
    omega
theorem rint_ends (a : Int) (h : -9223372036854775808 ≤ a ∧ a ≤ 9223372036854775807) : Ev (fun k => skymosaicref02_Int.f k a) (intB a) := by
  have hz := zig_range a
  refine Ev.congr (f := fun k => (skymosaicref02_Uint.f k (zigF a)).bind fun t => some t) (fun k => ?_) ?_
  · unfold skymosaicref02_Int.f
    rw [zig_eq a h]
    rfl
  · exact Ev.bind (ruint_ends (zigF a) hz.1 hz.2) (Ev.now _)
end Go.Proofs.Ytgmbjgddelcceaa.P
set_option linter.unusedVariables false
set_option linter.unusedSimpArgs false
namespace Go.Proofs.Ytgmbjgddelcceaa.P
open Go.RowKit Go.Proofs.YtgmbjgddelcceaaW.PrintWords Go.Proofs.YtgmbjgddelcceaaW.PrintLast
def isI (x : Int) : Prop := -9223372036854775808 ≤ x ∧ x ≤ 9223372036854775807
/-- A piece of machine numbers whose scene is -1 or none below 0. -/
def wfP (p : S80) : Prop := isI p.f2 ∧ isI p.f3.f0 ∧ (∀ m ∈ nums p, isI m) ∧ (0 ≤ p.f3.f3 ∧ p.f3.f3 < 18446744073709551616) ∧ (p.f3.f0 < 0 ↔ p.f3.f0 = -1)
theorem renc_nums (x0 : List S74) (i : Int) (p : S80) (hw : wfP p) (res : List Int) (cs0 : List Int) (hl : cs0.length ≤ 1000000)
    (hres : Ev (fun k => skymosaicref36_Encode.l0 k x0 (cs0 ++ tailB p) (wrap64 (i + 1))) res) : ∀ (d : Nat) (j : Int), 4 - j = d → 0 ≤ j →
    Ev (fun k => skymosaicref36_Encode.l1 k x0 (cs0 ++ ((nums p).take j.toNat).flatMap intB) i (nums p) j p.f0 p.f1 p.f2 p.f3.f0 p.f3.f1 p.f3.f2 p.f3.f3 p.f4 p.f5) res := by
  have hlen : (nums p).length = 4 := rfl
  have hb : ∀ j : Nat, (((nums p).take j).flatMap intB).length ≤ 40 := by
    intro j
    have h : ∀ l : List Int, (l.flatMap intB).length ≤ 10 * l.length := by
      intro l
      induction l with
      | nil => simp
      | cons x l ih => have := intB_len x; simp only [List.flatMap_cons, List.length_append, List.length_cons]; omega
    have := h ((nums p).take j)
    rw [List.length_take] at this
    omega
  intro d
  induction d with
  | zero =>
    intro j hd h0
    obtain rfl : j = 4 := by omega
    have e : (nums p).take (4 : Int).toNat = nums p := rfl
    rw [e]
    have hb4 := hb 4
    have e4 : (nums p).take 4 = nums p := rfl
    rw [e4] at hb4
    have hu := uintB_len 9 p.f3.f3
    refine Ev.step (f := fun k => (skymosaicref02_Uint.f k p.f3.f3).bind fun t388 => (if (cs0 ++ (nums p).flatMap intB).length + t388.length < 140737488355328 then (skymosaicref36_Encode.l0 k x0 ((cs0 ++ (nums p).flatMap intB) ++ t388) (wrap64 (i + 1))) else (none))) (fun k => ?_) ?_
    · conv => lhs; unfold skymosaicref36_Encode.l1
      rw [if_neg (by omega)]
    · refine Ev.bind (ruint_ends _ hw.2.2.2.1.1 hw.2.2.2.1.2) ?_
      refine Ev.congr (f := fun k => skymosaicref36_Encode.l0 k x0 (cs0 ++ tailB p) (wrap64 (i + 1))) (fun k => ?_) hres
      rw [if_pos (by rw [List.length_append]; omega), List.append_assoc]
      rfl
  | succ d ih =>
    intro j hd h0
    have hj : j < 4 := by omega
    have hm : (rd (nums p) j) ∈ nums p := by
      unfold rd
      rw [List.getD_eq_getElem?_getD, List.getElem?_eq_getElem (show j.toNat < (nums p).length by omega)]
      exact List.getElem_mem _
    have ht : (nums p).take (j + 1).toNat = (nums p).take j.toNat ++ [rd (nums p) j] := by
      rw [show (j + 1).toNat = j.toNat + 1 from by omega, List.take_succ_eq_append_getElem (by omega)]
      congr 2
      simp [rd, List.getD_eq_getElem?_getD, List.getElem?_eq_getElem (show j.toNat < (nums p).length by omega)]
    have hs := ih (j + 1) (by omega) (by omega)
    rw [ht, List.flatMap_append] at hs
    have e1 : ([rd (nums p) j] : List Int).flatMap intB = intB (rd (nums p) j) := by simp
    rw [e1, ← List.append_assoc] at hs
    have hb1 := hb j.toNat
    have hu := intB_len (rd (nums p) j)
    refine Ev.step (f := fun k => (skymosaicref02_Int.f k (rd (nums p) j)).bind fun t382 => (if (cs0 ++ ((nums p).take j.toNat).flatMap intB).length + t382.length < 140737488355328 then (skymosaicref36_Encode.l1 k x0 ((cs0 ++ ((nums p).take j.toNat).flatMap intB) ++ t382) i (nums p) (wrap64 (j + 1)) p.f0 p.f1 p.f2 p.f3.f0 p.f3.f1 p.f3.f2 p.f3.f3 p.f4 p.f5) else (none))) (fun k => ?_) ?_
    · conv => lhs; unfold skymosaicref36_Encode.l1
      rw [if_pos hj, if_pos h0, if_pos (by omega)]
    · refine Ev.bind (rint_ends _ (hw.2.2.1 _ hm)) ?_
      refine Ev.congr (fun k => ?_) hs
      rw [if_pos (by rw [List.length_append]; omega), w64 (by omega)]
theorem rd74_map (l : List S80) (i : Int) (h0 : 0 ≤ i) (h : i < l.length) : rd_T74 (l.map conv) i = conv (rd_T80 l i) := by
  simp [rd_T74, rd_T80, List.getD_eq_getElem?_getD, List.getElem?_eq_getElem (show i.toNat < l.length by omega)]
theorem renc_loop (l : List S80) (hl : l.length ≤ 1000) (hw : ∀ p ∈ l, wfP p) : ∀ (d : Nat) (i : Int) (cs : List Int), (l.length : Int) - i = d → 0 ≤ i → (cs.length : Int) ≤ 10 + 70 * i →
    Ev (fun k => skymosaicref36_Encode.l0 k (l.map conv) cs i) (cs ++ (l.drop i.toNat).flatMap pieceB) := by
  intro d
  induction d with
  | zero =>
    intro i cs hd h0 hc
    rw [List.drop_eq_nil_of_le (by omega)]
    refine Ev.step (f := fun _ => some (cs ++ [].flatMap pieceB)) (fun k => ?_) (Ev.now _)
    conv => lhs; unfold skymosaicref36_Encode.l0
    rw [if_neg (by simp; omega)]
    simp
  | succ d ih =>
    intro i cs hd h0 hc
    have hlt : i < (l.length : Int) := by omega
    obtain ⟨p, hp⟩ : ∃ p, rd_T80 l i = p := ⟨_, rfl⟩
    have hd2 := drop_rd80 l i h0 hlt
    rw [hp] at hd2
    have hm : p ∈ l := List.mem_of_mem_drop (by rw [hd2]; exact List.mem_cons_self)
    have hwp := hw p hm
    rw [hd2, List.flatMap_cons]
    have h74 := rd74_map l i h0 hlt
    rw [hp] at h74
    have u1 := intB_len p.f2
    have u2 := intB_len p.f3.f0
    have hpl := pieceB_len p
    have next := ih (i + 1) (cs ++ pieceB p) (by omega) (by omega) (by rw [List.length_append]; omega)
    rw [List.append_assoc] at next
    have hcl : cs.length ≤ 100000 := by omega
    refine Ev.step (f := fun k => (skymosaicref02_Int.f k p.f2).bind fun t366 => (if cs.length + t366.length < 140737488355328 then ((some (cs ++ t366 : List Int)).bind fun y369 => ((skymosaicref02_Int.f k p.f3.f0).bind fun t372 => (if y369.length + t372.length < 140737488355328 then ((some (y369 ++ t372 : List Int)).bind fun y375 => (if p.f3.f0 = (-1) then (skymosaicref36_Encode.l0 k (l.map conv) y375 (wrap64 (i + 1))) else (skymosaicref36_Encode.l1 k (l.map conv) y375 i (nums p) 0 p.f0 p.f1 p.f2 p.f3.f0 p.f3.f1 p.f3.f2 p.f3.f3 p.f4 p.f5))) else (none)))) else (none))) (fun k => ?_) ?_
    · conv => lhs; unfold skymosaicref36_Encode.l0
      rw [if_pos (by simp; omega), if_pos h0, h74]
      rfl
    · refine Ev.bind (rint_ends _ hwp.1) ?_
      refine Ev.congr (f := fun k => (skymosaicref02_Int.f k p.f3.f0).bind fun t372 => (if (cs ++ intB p.f2).length + t372.length < 140737488355328 then ((some ((cs ++ intB p.f2) ++ t372 : List Int)).bind fun y375 => (if p.f3.f0 = (-1) then (skymosaicref36_Encode.l0 k (l.map conv) y375 (wrap64 (i + 1))) else (skymosaicref36_Encode.l1 k (l.map conv) y375 i (nums p) 0 p.f0 p.f1 p.f2 p.f3.f0 p.f3.f1 p.f3.f2 p.f3.f3 p.f4 p.f5))) else (none))) (fun k => ?_) ?_
      · rw [if_pos (by omega)]; rfl
      · refine Ev.bind (rint_ends _ hwp.2.1) ?_
        by_cases hn : p.f3.f0 = -1
        · have hpb : cs ++ pieceB p = cs ++ intB p.f2 ++ intB p.f3.f0 := by unfold pieceB; rw [if_pos (by omega)]; simp
          rw [hpb] at next
          refine Ev.congr (f := fun k => skymosaicref36_Encode.l0 k (l.map conv) (cs ++ intB p.f2 ++ intB p.f3.f0) (i + 1)) (fun k => ?_) next
          rw [if_pos (by rw [List.length_append]; omega)]
          simp only [Option.bind_some]
          rw [if_pos hn, w64 (by omega)]
        · have hpb : cs ++ pieceB p = cs ++ intB p.f2 ++ intB p.f3.f0 ++ tailB p := by unfold pieceB; rw [if_neg (fun h => hn (hwp.2.2.2.2.1 h))]; simp
          rw [hpb] at next
          have hn2 := renc_nums (l.map conv) i p hwp _ (cs ++ intB p.f2 ++ intB p.f3.f0) (by rw [List.length_append, List.length_append]; omega) (by rw [w64 (by omega)]; exact next) 4 0 (by omega) (by omega)
          refine Ev.congr (f := fun k => skymosaicref36_Encode.l1 k (l.map conv) (cs ++ intB p.f2 ++ intB p.f3.f0 ++ ((nums p).take (0 : Int).toNat).flatMap intB) i (nums p) 0 p.f0 p.f1 p.f2 p.f3.f0 p.f3.f1 p.f3.f2 p.f3.f3 p.f4 p.f5) (fun k => ?_) hn2
          rw [if_pos (by rw [List.length_append]; omega)]
          simp only [Option.bind_some]
          rw [if_neg hn]
          simp
theorem renc_ends (l : List S80) (hl : l.length ≤ 1000) (hw : ∀ p ∈ l, wfP p) : Ev (fun k => skymosaicref36_Encode.f k (l.map conv)) (encB l) := by
  have h := renc_loop l hl hw l.length 0 (intB (l.length : Int)) (by omega) (by omega) (by have := intB_len (l.length : Int); omega)
  refine Ev.congr (f := fun k => (skymosaicref02_Int.f k (l.length : Int)).bind fun t361 => (skymosaicref36_Encode.l0 k (l.map conv) t361 0)) (fun k => ?_) ?_
  · unfold skymosaicref36_Encode.f
    rw [List.length_map]
  · refine Ev.bind (rint_ends _ ⟨by omega, by omega⟩) ?_
    simpa [encB] using h
end Go.Proofs.Ytgmbjgddelcceaa.P
set_option linter.unusedVariables false
set_option linter.unusedSimpArgs false
namespace Go.Proofs.Ytgmbjgddelcceaa.P
open Go.RowKit Go.Proofs.YtgmbjgddelcceaaW.PrintWords Go.Proofs.YtgmbjgddelcceaaW.PrintLast
theorem mem_rowP (r : Int) (l : List S71) : ∀ (k : Nat) (fr : Int) (p : S80), 0 ≤ fr → p ∈ rowP r l k fr → ∃ f, 0 ≤ f ∧ f < 16 ∧ p = beginF r l f
  | 0, fr, p, h0, h => by simp [rowP] at h
  | k + 1, fr, p, h0, h => by
    simp only [rowP] at h
    by_cases hf : fr < 16
    · rw [if_pos hf] at h
      have hto := beginF_to r l fr hf
      rcases List.mem_cons.1 h with h | h
      · exact ⟨fr, h0, hf, h⟩
      · exact mem_rowP r l k _ p (by omega) h
    · rw [if_neg hf] at h; cases h
theorem mem_packRows (xs : List S71) : ∀ (k : Nat) (r : Int) (p : S80), 0 ≤ r → r + k ≤ 16 → p ∈ packRows xs k r → ∃ r' f, 0 ≤ r' ∧ r' < 16 ∧ 0 ≤ f ∧ f < 16 ∧ p = beginF r' (rowOf xs r') f
  | 0, r, p, h0, hk, h => by simp [packRows] at h
  | k + 1, r, p, h0, hk, h => by
    simp only [packRows] at h
    rcases List.mem_append.1 h with h | h
    · obtain ⟨f, f0, f1, e⟩ := mem_rowP r (rowOf xs r) 16 0 p (by omega) h
      exact ⟨r, f, h0, by omega, f0, f1, e⟩
    · exact mem_packRows xs k (r + 1) p (by omega) (by omega) h
theorem mem_pack (xs : List S71) (p : S80) (h : p ∈ packL xs) : ∃ r f, 0 ≤ r ∧ r < 16 ∧ 0 ≤ f ∧ f < 16 ∧ p = beginF r (rowOf xs r) f := mem_packRows xs 16 0 p (by omega) (by omega) h
theorem begin_f3 (xs : List S71) (hx : xs.length = 256) (r f : Int) (h0 : 0 ≤ r) (h1 : r < 16) (f0 : 0 ≤ f) (f1 : f < 16) : (beginF r (rowOf xs r) f).f3 = rd_T71 xs (r * 16 + f) := by
  rw [← rd_row xs hx r f h0 h1 f0 f1]
  unfold beginF begin0
  split <;> rfl
theorem rd_mem (xs : List S71) (i : Int) (h0 : 0 ≤ i) (h : i < xs.length) : rd_T71 xs i ∈ xs := by
  rw [← rd_get xs i h0 h]
  exact List.getElem_mem _
theorem pack_first (xs : List S71) (hx : xs.length = 256) (p : S80) (h : p ∈ packL xs) : p.f3 ∈ xs := by
  obtain ⟨r, f, h0, h1, f0, f1, rfl⟩ := mem_pack xs p h
  rw [begin_f3 xs hx r f h0 h1 f0 f1]
  exact rd_mem xs _ (by omega) (by omega)
theorem pack_wf (xs : List S71) (hx : xs.length = 256) (hv : xs.any badS = false) (p : S80) (h : p ∈ packL xs) (hu : uOk p.f3) : wfP p := by
  obtain ⟨r, f, h0, h1, f0, f1, rfl⟩ := mem_pack xs p h
  have hto := beginF_to r (rowOf xs r) f f1
  have h3 := begin_f3 xs hx r f h0 h1 f0 f1
  have hg := at_valid hv (r * 16 + f) (by omega) (by omega)
  have hr := good_range hg
  rw [← h3] at hr hg
  have hneg : (beginF r (rowOf xs r) f).f3.f0 < 0 ↔ (beginF r (rowOf xs r) f).f3.f0 = -1 := by
    unfold badS validB noneB at hg
    simp only [Bool.not_eq_false', Bool.or_eq_true, Bool.and_eq_true, beq_iff_eq, decide_eq_true_eq] at hg
    rcases hg with hg | hg <;> omega
  have h4 : isI (beginF r (rowOf xs r) f).f4 ∧ isI (beginF r (rowOf xs r) f).f5 := by
    unfold beginF begin0
    split
    · exact ⟨w64_ok _, w64_ok _⟩
    · have h0 : isI 0 := ⟨by decide, by decide⟩
      exact ⟨h0, h0⟩
  refine ⟨⟨by omega, by omega⟩, hu.2, ?_, hu.1, hneg⟩
  intro m hm
  simp only [nums, List.mem_cons, List.not_mem_nil, or_false] at hm
  rcases hm with rfl | rfl | rfl | rfl
  · exact ⟨by omega, by omega⟩
  · exact ⟨by omega, by omega⟩
  · exact h4.1
  · exact h4.2
end Go.Proofs.Ytgmbjgddelcceaa.P
