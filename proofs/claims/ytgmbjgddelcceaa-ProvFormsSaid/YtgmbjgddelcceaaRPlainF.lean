import Derived.Test.YtgmbjgddelcceaaRPlainD
import Derived.Test.YtgmbjgddelcceaaRPx10
import Derived.Test.YtgmbjgddelcceaaRGivenX
import Derived.Test.YtgmbjgddelcceaaRGivenY
import Derived.Lib.Zigzag
import Derived.Laws.BitsAllLaws
set_option linter.unusedVariables false
set_option linter.unusedSimpArgs false
namespace Go.Proofs.Ytgmbjgddelcceaa.P
open Go.RowKit Go.Proofs.YtgmbjgddelcceaaW.PrintWords Go.Proofs.YtgmbjgddelcceaaW.PrintLast
/-- A source whose scene and parameters are machine numbers. -/
def uOk (s : S71) : Prop := (0 ≤ s.f3 ∧ s.f3 < 18446744073709551616) ∧ (-9223372036854775808 ≤ s.f0 ∧ s.f0 ≤ 9223372036854775807)
theorem u64_ok (x : Int) : 0 ≤ IntKind.u64.wrap x ∧ IntKind.u64.wrap x < 18446744073709551616 := by
  have h : IntKind.u64.wrap x = x % 18446744073709551616 := by simp [IntKind.wrap, IntKind.signed, IntKind.bits]
  rw [h]; omega
theorem w64_ok (x : Int) : -9223372036854775808 ≤ wrap64 x ∧ wrap64 x ≤ 9223372036854775807 := by unfold wrap64; omega
theorem sources_uOk : ∀ k : Nat,
    (∀ x0 x3 x4 r, (∀ s ∈ x3, uOk s) → skymosaicref36_Sources.l0 k x0 x3 x4 = some r → ∀ s ∈ r, uOk s) ∧
    (∀ x0 x3 x4 x5 x7 x8 a b c d r, (∀ s ∈ x3, uOk s) → (0 ≤ d ∧ d < 18446744073709551616) → (-9223372036854775808 ≤ a ∧ a ≤ 9223372036854775807) → skymosaicref36_Sources.j1 k x0 x3 x4 x5 x7 x8 a b c d = some r → ∀ s ∈ r, uOk s) ∧
    (∀ x0 x3 x4 x7 x8 x9 x10 a b c d r, (∀ s ∈ x3, uOk s) → (0 ≤ d ∧ d < 18446744073709551616) → (-9223372036854775808 ≤ a ∧ a ≤ 9223372036854775807) → skymosaicref36_Sources.l1 k x0 x3 x4 x7 x8 x9 x10 a b c d = some r → ∀ s ∈ r, uOk s) := by
  intro k
  induction k with
  | zero => exact ⟨fun _ _ _ _ _ h => (by cases h), fun _ _ _ _ _ _ _ _ _ _ _ _ _ _ h => (by cases h), fun _ _ _ _ _ _ _ _ _ _ _ _ _ _ _ h => (by cases h)⟩
  | succ k ih =>
    obtain ⟨ih0, ih1, ih2⟩ := ih
    refine ⟨?_, ?_, ?_⟩
    · intro x0 x3 x4 r hx h
      unfold skymosaicref36_Sources.l0 at h
      split at h
      · split at h
        · cases h
        · obtain ⟨t, ht, h⟩ := Option.bind_eq_some_iff.mp h
          split at h
          · exact ih1 _ _ _ _ _ _ _ _ _ _ _ hx (u64_ok _) (w64_ok _) h
          · exact ih1 _ _ _ _ _ _ _ _ _ _ _ hx ⟨by decide, by decide⟩ (w64_ok _) h
      · obtain rfl := Option.some.inj h
        exact hx
    · intro x0 x3 x4 x5 x7 x8 a b c d r hx hd ha h
      unfold skymosaicref36_Sources.j1 at h
      exact ih2 _ _ _ _ _ _ _ _ _ _ _ _ hx hd ha h
    · intro x0 x3 x4 x7 x8 x9 x10 a b c d r hx hd ha h
      unfold skymosaicref36_Sources.l1 at h
      split at h
      · split at h
        · split at h
          · simp only [skymosaicref36_next.f, Option.bind_some] at h
            refine ih2 _ _ _ _ _ _ _ _ _ _ _ _ ?_ hd ha h
            intro s hs
            rcases List.mem_append.1 hs with hs | hs
            · exact hx s hs
            · obtain rfl := List.mem_singleton.1 hs
              exact ⟨hd, ha⟩
          · cases h
        · exact ih0 _ _ _ _ hx h
      · exact ih0 _ _ _ _ hx h
theorem sources_params {l : List Int} {s : List S71} (h : Ev (fun k => skymosaicref36_Sources.f k l) s) : ∀ x ∈ s, uOk x := by
  obtain ⟨k, hk⟩ := h.rounds
  exact (sources_uOk k).1 l [] 0 s (fun x hx => by cases hx) hk
theorem samebytes_loop (l : List Int) (hl : l.length ≤ 1000000) : ∀ (d : Nat) (i : Int), (l.length : Int) - i = d → 0 ≤ i → Ev (fun k => skymosaicref01_SameBytes.l0 k l l i) true := by
  intro d
  induction d with
  | zero =>
    intro i hd h0
    refine Ev.step (f := fun _ => some true) (fun k => ?_) (Ev.now _)
    conv => lhs; unfold skymosaicref01_SameBytes.l0
    rw [if_neg (by omega)]
  | succ d ih =>
    intro i hd h0
    refine Ev.step (f := fun k => skymosaicref01_SameBytes.l0 k l l (i + 1)) (fun k => ?_) (ih (i + 1) (by omega) (by omega))
    conv => lhs; unfold skymosaicref01_SameBytes.l0
    rw [if_pos (by omega), if_pos h0, if_pos (by omega), if_pos rfl, w64 (by omega)]
theorem samebytes_ends (l : List Int) (hl : l.length ≤ 1000000) : Ev (fun k => skymosaicref01_SameBytes.f k l l) true := by
  refine Ev.congr (f := fun k => skymosaicref01_SameBytes.l0 k l l 0) (fun k => ?_) (samebytes_loop l hl l.length 0 (by omega) (by omega))
  unfold skymosaicref01_SameBytes.f
  rw [if_pos rfl]
theorem or128 : ∀ b : Fin 256, Go.bits .or .u8 ((b.val : Nat) : Int) 128 = 128 + ((b.val : Nat) : Int) % 128 := by decide +kernel
theorem more_eq (n : Int) (h0 : 0 ≤ n) (h : n < 18446744073709551616) : moreB n = (IntKind.u64.wrap (128 + Int.tmod n 128)) % 256 := by
  have h1 := or128 ⟨(n % 256).toNat, by omega⟩
  have h2 : (((n % 256).toNat : Nat) : Int) = n % 256 := by omega
  simp only [h2] at h1
  unfold moreB
  rw [h1, Int.tmod_eq_emod_of_nonneg h0]
  have h3 : IntKind.u64.wrap (128 + n % 128) = (128 + n % 128) % 18446744073709551616 := by simp [IntKind.wrap, IntKind.signed, IntKind.bits]
  rw [h3]; omega
theorem ruint_loop : ∀ (j : Nat) (n : Int) (cs : List Int), 0 ≤ n → n < 18446744073709551616 → n < 128 * 128 ^ j → cs.length + j ≤ 1000000 → Ev (fun k => skymosaicref02_Uint.l0 k n cs) (cs ++ uintB j n) := by
  have fin : ∀ (j : Nat) (n : Int) (cs : List Int), ¬ 128 ≤ n → cs.length + j ≤ 1000000 → Ev (fun k => skymosaicref02_Uint.l0 k n cs) (cs ++ uintB j n) := by
    intro j n cs hn hl
    rw [uintB_end j n hn]
    refine Ev.step (f := fun _ => some (cs ++ [n % 256])) (fun k => ?_) (Ev.now _)
    conv => lhs; unfold skymosaicref02_Uint.l0
    rw [if_neg (by omega), if_pos (by omega)]
  intro j
  induction j with
  | zero => intro n cs h0 h1 h2 hl; exact fin 0 n cs (by omega) hl
  | succ j ih =>
    intro n cs h0 h1 h2 hl
    by_cases hn : 128 ≤ n
    · have hq : (128 : Int) ^ (j + 1) = 128 ^ j * 128 := Int.pow_succ _ _
      rw [hq] at h2
      have hs := ih (n / 128) (cs ++ [moreB n]) (by omega) (by omega) (by generalize (128 : Int) ^ j = q at h2 ⊢; omega) (by simp; omega)
      simp only [uintB]
      rw [if_pos hn]
      rw [List.append_assoc] at hs
      refine Ev.step (f := fun k => skymosaicref02_Uint.l0 k (n / 128) (cs ++ [moreB n])) (fun k => ?_) hs
      conv => lhs; unfold skymosaicref02_Uint.l0
      have h3 : IntKind.u64.wrap (Int.tdiv n 128) = n / 128 := by
        rw [Int.tdiv_eq_ediv_of_nonneg h0]
        have : IntKind.u64.wrap (n / 128) = (n / 128) % 18446744073709551616 := by simp [IntKind.wrap, IntKind.signed, IntKind.bits]
        rw [this]; omega
      rw [if_pos (by omega), if_pos (by omega), h3, more_eq n h0 h1]
    · exact fin (j + 1) n cs hn hl
theorem ruint_ends (n : Int) (h0 : 0 ≤ n) (h1 : n < 18446744073709551616) : Ev (fun k => skymosaicref02_Uint.f k n) (uintB 9 n) := by
  have := ruint_loop 9 n [] h0 h1 (Int.lt_of_lt_of_le h1 (by decide)) (by simp)
  exact (by simpa using this : Ev (fun k => skymosaicref02_Uint.l0 k n []) (uintB 9 n))
theorem w_u64 (x : Int) : IntKind.u64.wrap x = x % 18446744073709551616 := by simp [IntKind.wrap, IntKind.signed, IntKind.bits]
theorem zig_eq (a : Int) (h : -9223372036854775808 ≤ a ∧ a ≤ 9223372036854775807) : skymosaicref02_Zigzag.f a = some (zigF a) := by
  unfold skymosaicref02_Zigzag.f zigF
  rw [w_u64 a, w_u64 (a % 18446744073709551616 * 2), w_u64 (a / 9223372036854775808)]
  by_cases hn : a < 0
  · rw [if_pos hn, w64 (x := a + 1) (by omega), w64 (by omega)]
    rw [u64_xor _ _ (by omega) (by omega) (by omega) (by omega)]
    have e1 : (a / 9223372036854775808 % 18446744073709551616).toNat = 2 ^ 64 - 1 := by omega
    have e2 : (a % 18446744073709551616 * 2 % 18446744073709551616).toNat = (2 * a + 18446744073709551616).toNat := by omega
    rw [e1, e2, Nat.xor_comm, Go.Lib.xor_ones64 _ (by omega)]
    simp only [w_u64]
    congr 1
    omega
  · rw [if_neg hn]
    rw [u64_xor _ _ (by omega) (by omega) (by omega) (by omega)]
    have e1 : (a / 9223372036854775808 % 18446744073709551616).toNat = 0 := by omega
    rw [e1, Nat.xor_zero]
    simp only [w_u64]
    congr 1
    omega
theorem rint_ends (a : Int) (h : -9223372036854775808 ≤ a ∧ a ≤ 9223372036854775807) : Ev (fun k => skymosaicref02_Int.f k a) (intB a) := by
  have hz := zig_range a
  refine Ev.congr (f := fun k => (skymosaicref02_Uint.f k (zigF a)).bind fun t => some t) (fun k => ?_) ?_
  · unfold skymosaicref02_Int.f
    rw [zig_eq a h]
    rfl
  · exact Ev.bind (ruint_ends (zigF a) hz.1 hz.2) (Ev.now _)
end Go.Proofs.Ytgmbjgddelcceaa.P
