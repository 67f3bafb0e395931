import Derived.Test.YtgmbjgddelcceaaUGivenU
import Derived.Test.YtgmbjgddelcceaaUPlainI
import Derived.Lib.Zigzag
import Derived.Laws.BitsAllLaws
import Derived.Lib.Bytes
set_option linter.unusedVariables false
set_option linter.unusedSimpArgs false
namespace Go.Proofs.Ytgmbjgddelcceaa.P
open Go.RowKit Go.Proofs.YtgmbjgddelcceaaW.PrintWords Go.Proofs.YtgmbjgddelcceaaW.PrintLast
theorem more_val (n : Int) : moreB n = 128 + n % 128 := by
  have h1 := or128 ⟨(n % 256).toNat, by omega⟩
  have h2 : (((n % 256).toNat : Nat) : Int) = n % 256 := by omega
  simp only [h2] at h1
  unfold moreB
  rw [h1]; omega
theorem clear128 : ∀ b : Fin 256, Go.bits .andNot .u8 ((b.val : Nat) : Int) 128 = ((b.val : Nat) : Int) % 128 := by decide +kernel
theorem clear_val (c : Int) (h0 : 0 ≤ c) (h1 : c < 256) : Go.bits .andNot .u8 c 128 = c % 128 := by
  have h := clear128 ⟨c.toNat, by omega⟩
  have h2 : ((c.toNat : Nat) : Int) = c := by omega
  simp only [h2] at h
  exact h
theorem or_join (a b : Int) (i : Nat) (ha : 0 ≤ a) (ha2 : a < 2 ^ i) (hb : 0 ≤ b) (hs : a + b * 2 ^ i < 18446744073709551616) : Go.bits .or .u64 a (b * 2 ^ i) = a + b * 2 ^ i := by
  have hp : (0 : Int) < 2 ^ i := Int.pow_pos (by decide)
  have hbp : 0 ≤ b * 2 ^ i := Int.mul_nonneg hb (Int.le_of_lt hp)
  have ha3 : a < 18446744073709551616 := by omega
  rw [u64_or a (b * 2 ^ i) ha ha3 hbp (by omega)]
  obtain ⟨an, rfl⟩ := Int.eq_ofNat_of_zero_le ha
  obtain ⟨bn, rfl⟩ := Int.eq_ofNat_of_zero_le hb
  have e : ((bn : Int) * 2 ^ i).toNat = bn * 2 ^ i := by
    have : ((bn : Int) * 2 ^ i) = ((bn * 2 ^ i : Nat) : Int) := by simp
    rw [this]; rfl
  rw [e, Int.toNat_natCast, Nat.or_comm, nat_join i (bn * 2 ^ i) an (Nat.mul_mod_left _ _) (by exact_mod_cast ha2)]
  simp
  omega
theorem acc_val (n i c m : Int) (h0 : 0 ≤ c) (h1 : c < 256) (hm : c % 128 = m) (hi : 0 ≤ i) (hi9 : i ≤ 9) (hn : 0 ≤ n) (hn2 : n < 128 ^ i.toNat) (hs : n + m * 128 ^ i.toNat < 18446744073709551616) : accN n i c = n + m * 128 ^ i.toNat := by
  have hp : (128 : Int) ^ i.toNat = 2 ^ (7 * i).toNat := by
    have e : (7 * i).toNat = 7 * i.toNat := by omega
    rw [e, Int.pow_mul]; rfl
  rw [hp] at hn2 hs ⊢
  have hpp : (0 : Int) < 2 ^ (7 * i).toNat := Int.pow_pos (by decide)
  have hm0 : 0 ≤ m := by omega
  have hmp : 0 ≤ m * 2 ^ (7 * i).toNat := Int.mul_nonneg hm0 (Int.le_of_lt hpp)
  unfold accN
  rw [clear_val c h0 h1, hm, w_u64 m, Int.emod_eq_of_lt hm0 (by omega), w_u64, Int.emod_eq_of_lt hmp (by omega)]
  exact or_join n m _ hn hn2 hm0 hs
theorem uint_parse_go (rest : List Int) : ∀ (j : Nat) (i acc m : Int), i + j = 9 → 0 ≤ i → 0 ≤ acc → acc < 128 ^ i.toNat → 0 ≤ m → (i = 0 ∨ 0 < m) → acc + m * 128 ^ i.toNat < 18446744073709551616 →
    uintL (j + 2) i acc ⟨uintB j m ++ rest, 0⟩ = (acc + m * 128 ^ i.toNat, ⟨rest, 0⟩) := by
  have fin : ∀ (j : Nat) (i acc m : Int), i + j = 9 → 0 ≤ i → 0 ≤ acc → acc < 128 ^ i.toNat → 0 ≤ m → m < 128 → (i = 0 ∨ 0 < m) → acc + m * 128 ^ i.toNat < 18446744073709551616 →
      uintL (j + 2) i acc ⟨uintB j m ++ rest, 0⟩ = (acc + m * 128 ^ i.toNat, ⟨rest, 0⟩) := by
    intro j i acc m hij hi ha ha2 hm hlt hz hs
    rw [uintB_end j m (by omega), show m % 256 = m from by omega]
    have hnx : nextF ⟨[m] ++ rest, 0⟩ = (m, ⟨rest, 0⟩) := rfl
    have hbad : badB i m = false := by
      unfold badB
      have h1 : (i == 9 && decide (m > 1)) = false := by
        by_cases h9 : i = 9
        · have hm1 : ¬ m > 1 := by
            intro h
            rw [h9] at hs
            have : (2 : Int) * 128 ^ (9 : Int).toNat ≤ m * 128 ^ (9 : Int).toNat := Int.mul_le_mul_of_nonneg_right (by omega) (by decide)
            have e : (2 : Int) * 128 ^ (9 : Int).toNat = 18446744073709551616 := by decide
            omega
          rw [decide_eq_false hm1, Bool.and_false]
        · rw [beq_eq_false_iff_ne.mpr h9, Bool.false_and]
      have h2 : (decide (i > 0) && m == 0) = false := by
        rcases hz with h | h
        · rw [decide_eq_false (by omega), Bool.false_and]
        · rw [beq_eq_false_iff_ne.mpr (by omega), Bool.and_false]
      rw [h1, h2]; rfl
    simp only [uintL]
    rw [if_pos trivial, hnx]
    simp only [hbad]
    rw [if_pos ⟨hlt, rfl⟩, acc_val acc i m m hm (by omega) (by omega) hi (by omega) ha ha2 hs]
    rfl
  intro j
  induction j with
  | zero =>
    intro i acc m hij hi ha ha2 hm hz hs
    refine fin 0 i acc m hij hi ha ha2 hm ?_ hz hs
    have h9 : i = 9 := by omega
    rw [h9] at hs
    by_cases h : m < 128
    · exact h
    · exfalso
      have h : 128 ≤ m := by omega
      have : (128 : Int) * 128 ^ (9 : Int).toNat ≤ m * 128 ^ (9 : Int).toNat := Int.mul_le_mul_of_nonneg_right h (by decide)
      have e : (128 : Int) * 128 ^ (9 : Int).toNat = 1180591620717411303424 := by decide
      omega
  | succ j ih =>
    intro i acc m hij hi ha ha2 hm hz hs
    by_cases h128 : 128 ≤ m
    · have hb : uintB (j + 1) m = moreB m :: uintB j (m / 128) := by simp only [uintB]; rw [if_pos h128]
      rw [hb, more_val]
      have hnx : nextF ⟨(128 + m % 128) :: uintB j (m / 128) ++ rest, 0⟩ = (128 + m % 128, ⟨uintB j (m / 128) ++ rest, 0⟩) := rfl
      have hp : (0 : Int) < 128 ^ i.toNat := Int.pow_pos (by decide)
      have hpow : (128 : Int) ^ (i + 1).toNat = 128 ^ i.toNat * 128 := by rw [show (i + 1).toNat = i.toNat + 1 from by omega, Int.pow_succ]
      have hsplit : m * 128 ^ i.toNat = (m % 128) * 128 ^ i.toNat + (m / 128) * (128 ^ i.toNat * 128) := by
        have : m = m % 128 + m / 128 * 128 := by omega
        calc m * 128 ^ i.toNat = (m % 128 + m / 128 * 128) * 128 ^ i.toNat := by rw [← this]
          _ = _ := by rw [Int.add_mul, Int.mul_assoc, Int.mul_comm 128]
      have hq0 : 0 ≤ m / 128 * (128 ^ i.toNat * 128) := Int.mul_nonneg (by omega) (by omega)
      have hr0 : 0 ≤ m % 128 * 128 ^ i.toNat := Int.mul_nonneg (by omega) (by omega)
      have hr1 : m % 128 * 128 ^ i.toNat ≤ 127 * 128 ^ i.toNat := Int.mul_le_mul_of_nonneg_right (by omega) (by omega)
      have hacc : accN acc i (128 + m % 128) = acc + (m % 128) * 128 ^ i.toNat := acc_val acc i _ _ (by omega) (by omega) (by omega) hi (by omega) ha ha2 (by omega)
      have hbad : badB i (128 + m % 128) = false := by
        unfold badB
        rw [beq_eq_false_iff_ne.mpr (show i ≠ 9 by omega), beq_eq_false_iff_ne.mpr (show 128 + m % 128 ≠ 0 by omega)]
        simp
      have := ih (i + 1) (acc + (m % 128) * 128 ^ i.toNat) (m / 128) (by omega) (by omega) (by omega) (by rw [hpow]; omega) (by omega) (.inr (by omega)) (by rw [hpow]; omega)
      rw [hpow] at this
      show uintL ((j + 2) + 1) i acc _ = _
      unfold uintL
      rw [if_pos rfl, hnx]
      simp only [hbad]
      rw [if_neg (by simp only [Bool.false_eq_true, if_false]; omega), hacc]
      simp only [Bool.false_eq_true, if_false]
      rw [this, hsplit]
      congr 1
      omega
    · exact fin (j + 1) i acc m hij hi ha ha2 hm (by omega) hz hs
theorem uint_parse (n : Int) (h0 : 0 ≤ n) (h1 : n < 18446744073709551616) (rest : List Int) : uintF ⟨uintB 9 n ++ rest, 0⟩ = (n, ⟨rest, 0⟩) := by
  have := uint_parse_go rest 9 0 0 n (by omega) (by omega) (by omega) (by decide) h0 (.inl rfl) (by simpa using h1)
  unfold uintF
  rw [this]
  simp
theorem zig_val (a : Int) (h : isI a) : zigF a = if a < 0 then -2 * a - 1 else 2 * a := by
  have h2 := zig_eq a h
  unfold skymosaicref02_Zigzag.f at h2
  obtain ⟨ha, hb⟩ := h
  by_cases hn : a < 0
  · rw [if_pos hn] at h2 ⊢
    have h3 := Option.some.inj h2
    rw [← h3, w64 (x := a + 1) (by omega), w64 (by omega)]
    simp only [w_u64]
    omega
  · rw [if_neg hn] at h2 ⊢
    have h3 := Option.some.inj h2
    rw [← h3]
    simp only [w_u64]
    omega
theorem xor_comm64 (a b : Int) : Go.bits .xor .i64 a b = Go.bits .xor .i64 b a := by
  show IntKind.i64.wrap ((BitVec.ofInt 64 a ^^^ BitVec.ofInt 64 b).toNat : Int) = IntKind.i64.wrap ((BitVec.ofInt 64 b ^^^ BitVec.ofInt 64 a).toNat : Int)
  rw [BitVec.xor_comm]
theorem xor_zero64 (x : Nat) (hx : x < 9223372036854775808) : Go.bits .xor .i64 (x : Int) 0 = (x : Int) := by
  show IntKind.i64.wrap ((BitVec.ofInt 64 (x : Int) ^^^ BitVec.ofInt 64 0).toNat : Int) = _
  have h1 : BitVec.ofInt 64 (x : Int) ^^^ BitVec.ofInt 64 0 = BitVec.ofInt 64 (x : Int) := by show _ ^^^ 0#64 = _; exact BitVec.xor_zero
  have h2 : (BitVec.ofInt 64 (x : Int)).toNat = x := by
    rw [BitVec.ofInt_natCast, BitVec.toNat_ofNat]; exact Nat.mod_eq_of_lt (by omega)
  rw [h1, h2, IntKind.wrap_i64]
  omega
theorem unzig_zig (a : Int) (h : isI a) : unzigF (zigF a) = a := by
  have hz := zig_val a h
  have hr := zig_range a
  obtain ⟨ha, hb⟩ := h
  unfold unzigF
  rw [Go.Lib.u64_and1 _ hr.1 hr.2]
  by_cases hn : a < 0
  · rw [if_pos hn] at hz
    rw [hz, w64 (x := (-2 * a - 1) / 2) (by omega), show (-2 * a - 1) % 2 = 1 from by omega, show wrap64 (-(wrap64 1)) = -1 from by unfold wrap64; omega, xor_comm64]
    have e : (-2 * a - 1) / 2 = (((-a - 1).toNat : Nat) : Int) := by omega
    rw [e, Go.Lib.i64_not _ (by omega)]
    omega
  · rw [if_neg hn] at hz
    rw [hz, w64 (x := 2 * a / 2) (by omega), show (2 * a) % 2 = 0 from by omega, show wrap64 (-(wrap64 0)) = 0 from by unfold wrap64; omega]
    have e : 2 * a / 2 = ((a.toNat : Nat) : Int) := by omega
    rw [e, xor_zero64 _ (by omega)]
    omega
theorem int_parse (n : Int) (h : isI n) (rest : List Int) : rintF ⟨intB n ++ rest, 0⟩ = (n, ⟨rest, 0⟩) := by
  have hr := zig_range n
  unfold rintF intB
  rw [uint_parse _ hr.1 hr.2, unzig_zig n h]
/-- A piece that the reader gives back as it is. -/
def goodP (p : S80) : Prop := wfP p ∧ (p.f3.f0 < 0 → p.f3.f1 = 0 ∧ p.f3.f2 = 0 ∧ p.f3.f3 = 0 ∧ p.f4 = 0 ∧ p.f5 = 0)
theorem piece_parse (p : S80) (h : goodP p) (rest : List Int) : decPiece p.f0 p.f1 ⟨pieceB p ++ rest, 0⟩ = (p, ⟨rest, 0⟩) := by
  obtain ⟨⟨h2, hsc, hn, hu, hneg⟩, hz⟩ := h
  have m1 : isI p.f3.f1 := hn _ (by simp [nums])
  have m2 : isI p.f3.f2 := hn _ (by simp [nums])
  have m3 : isI p.f4 := hn _ (by simp [nums])
  have m4 : isI p.f5 := hn _ (by simp [nums])
  unfold decPiece
  by_cases h0 : p.f3.f0 < 0
  · have hb : pieceB p ++ rest = intB p.f2 ++ (intB p.f3.f0 ++ rest) := by unfold pieceB; rw [if_pos h0]; simp
    rw [hb, int_parse _ h2]
    simp only
    rw [int_parse _ hsc, if_neg (by show ¬ (0 ≤ p.f3.f0); omega)]
    obtain ⟨z1, z2, z3, z4, z5⟩ := hz h0
    simp only [Prod.mk.injEq, and_true]
    cases p with
    | mk a b c d e f =>
      cases d with
      | mk d0 d1 d2 d3 =>
        simp only at z1 z2 z3 z4 z5
        subst z1 z2 z3 z4 z5
        rfl
  · have hb : pieceB p ++ rest = intB p.f2 ++ (intB p.f3.f0 ++ (intB p.f3.f1 ++ (intB p.f3.f2 ++ (intB p.f4 ++ (intB p.f5 ++ (uintB 9 p.f3.f3 ++ rest)))))) := by
      unfold pieceB tailB nums; rw [if_neg h0]; simp
    rw [hb, int_parse _ h2]
    simp only
    rw [int_parse _ hsc]
    simp only
    rw [if_pos (show 0 ≤ p.f3.f0 by omega), int_parse _ m1]
    simp only
    rw [int_parse _ m2]
    simp only
    rw [int_parse _ m3]
    simp only
    rw [int_parse _ m4]
    simp only
    rw [uint_parse _ hu.1 hu.2]
theorem loop_parse (rest : List Int) : ∀ (l : List S80) (k : Nat) (n : Int) (out o : List S71) (acc : List S80), unpackGo l out = some o → l.length ≤ k → n = ((acc.length + l.length : Nat) : Int) → (∀ p ∈ l, goodP p) →
    decLoop k n ((out.length : Int) / 16) ((out.length : Int) % 16) acc ⟨l.flatMap pieceB ++ rest, 0⟩ = (acc ++ l, ⟨rest, 0⟩)
  | [], k, n, out, o, acc, hu, hk, hn, hg => by
    have hn' : n = (acc.length : Int) := by rw [hn]; simp
    cases k with
    | zero => simp [decLoop]
    | succ k => simp only [decLoop]; rw [if_neg (by omega)]; simp
  | p :: ps, k, n, out, o, acc, hu, hk, hn, hg => by
    obtain ⟨k, rfl⟩ : ∃ j, k = j + 1 := ⟨k - 1, by rw [List.length_cons] at hk; omega⟩
    simp only [unpackGo] at hu
    split at hu
    · cases hu
    · rename_i hb
      split at hu
      · cases hu
      · simp only [badPiece, Bool.or_eq_true, bne_iff_ne, decide_eq_true_eq, not_or, Decidable.not_not] at hb
        obtain ⟨b1, b2, b3, b4, b5⟩ := hb
        rw [List.length_cons] at hk hn
        simp only [decLoop]
        rw [if_pos (by omega), List.flatMap_cons, List.append_assoc, ← b1, ← b2, piece_parse p (hg p List.mem_cons_self)]
        simp only
        have hlen : (out ++ pixs p (p.f2 - p.f1).toNat).length = out.length + (p.f2 - p.f1).toNat := by simp [pixs]
        have ih := loop_parse rest ps k n _ o (acc ++ [p]) hu (by omega) (by rw [hn]; simp; omega) (fun q hq => hg q (List.mem_cons_of_mem _ hq))
        rw [hlen] at ih
        by_cases h16 : 16 ≤ p.f2
        · rw [if_pos h16]
          have e1 : ((out.length + (p.f2 - p.f1).toNat : Nat) : Int) / 16 = p.f0 + 1 := by omega
          have e2 : ((out.length + (p.f2 - p.f1).toNat : Nat) : Int) % 16 = 0 := by omega
          rw [e1, e2] at ih
          rw [ih]; simp
        · rw [if_neg h16]
          have e1 : ((out.length + (p.f2 - p.f1).toNat : Nat) : Int) / 16 = p.f0 := by omega
          have e2 : ((out.length + (p.f2 - p.f1).toNat : Nat) : Int) % 16 = p.f2 := by omega
          rw [e1, e2] at ih
          rw [ih]; simp
theorem pack_good (xs : List S71) (hx : xs.length = 256) (hv : xs.any badS = false) (hu : ∀ x ∈ xs, uOk x) (p : S80) (h : p ∈ packL xs) : goodP p := by
  refine ⟨pack_wf xs hx hv p h (hu _ (pack_first xs hx p h)), fun hneg => ?_⟩
  obtain ⟨r, f, h0, h1, f0, f1, rfl⟩ := mem_pack xs p h
  have h3 := begin_f3 xs hx r f h0 h1 f0 f1
  have hg := at_valid hv (r * 16 + f) (by omega) (by omega)
  have none0 : ∀ s : S71, badS s = false → s.f0 < 0 → s.f1 = 0 ∧ s.f2 = 0 ∧ s.f3 = 0 := by
    intro s hs hn
    unfold badS validB noneB at hs
    simp only [Bool.not_eq_false', Bool.or_eq_true, Bool.and_eq_true, beq_iff_eq, decide_eq_true_eq] at hs
    rcases hs with hs | hs
    · exact ⟨hs.2.1, hs.2.2.1, hs.2.2.2⟩
    · omega
  rw [h3] at hneg
  obtain ⟨z1, z2, z3⟩ := none0 _ hg hneg
  rw [h3]
  refine ⟨z1, z2, z3, ?_⟩
  have e4 : (beginF r (rowOf xs r) f).f4 = (begin0 r (rowOf xs r) f).f4 := rfl
  have e5 : (beginF r (rowOf xs r) f).f5 = (begin0 r (rowOf xs r) f).f5 := rfl
  rw [e4, e5]
  unfold begin0
  split
  · rename_i hlk
    unfold likeB at hlk
    simp only [Bool.and_eq_true, decide_eq_true_eq, beq_iff_eq] at hlk
    obtain ⟨hl1, hl2, hl3⟩ := hlk
    rw [rd_row xs hx r (f + 1) h0 h1 (by omega) hl1, rd_row xs hx r f h0 h1 f0 f1] at hl2
    have hg2 := at_valid hv (r * 16 + (f + 1)) (by omega) (by omega)
    obtain ⟨y1, y2, y3⟩ := none0 _ hg2 (by rw [hl2]; exact hneg)
    simp only
    rw [rd_row xs hx r (f + 1) h0 h1 (by omega) hl1, rd_row xs hx r f h0 h1 f0 f1, y1, y2, z1, z2]
    exact ⟨by unfold wrap64; omega, by unfold wrap64; omega⟩
  · exact ⟨rfl, rfl⟩
theorem rd_parse (xs : List S71) (hx : xs.length = 256) (hv : xs.any badS = false) (hu : ∀ x ∈ xs, uOk x) : decRd (encB (packL xs)) = (packL xs, ⟨[], 0⟩) := by
  obtain ⟨h1, h2, h3, h4⟩ := pack_facts xs hx hv
  have hgo := unpack_tail xs hx hv 256 0 (by omega) (by omega) (by omega)
  rw [← packL_tail] at hgo
  have hgo : unpackGo (packL xs) [] = some xs := hgo
  unfold decRd encB
  rw [int_parse _ (show isI ((packL xs).length : Int) from ⟨by omega, by omega⟩)]
  simp only
  rw [if_neg (by omega)]
  have := loop_parse [] (packL xs) 256 ((packL xs).length : Int) [] xs [] hgo h4 (by simp) (fun p hp => pack_good xs hx hv hu p hp)
  simpa using this
theorem dec_back (xs : List S71) (hx : xs.length = 256) (hv : xs.any badS = false) (hu : ∀ x ∈ xs, uOk x) (hp : (packF xs).2 = 0) : encF (packL xs) = (encB (packL xs), 0) ∧ decF (encB (packL xs)) = (packL xs, 0) := by
  have hun := (unpack_back xs hp)
  have he : encF (packL xs) = (encB (packL xs), 0) := by
    unfold encF
    rw [← hun.2.2.2, hun.1]
    rfl
  refine ⟨he, ?_⟩
  unfold decF
  rw [rd_parse xs hx hv hu]
  simp only
  rw [he, if_pos ⟨rfl, rfl, beq_self_eq_true _⟩]
end Go.Proofs.Ytgmbjgddelcceaa.P
set_option linter.unusedVariables false
set_option linter.unusedSimpArgs false
namespace Go.Proofs.Ytgmbjgddelcceaa.P
open Go.RowKit Go.Proofs.YtgmbjgddelcceaaW.PrintWords Go.Proofs.YtgmbjgddelcceaaW.PrintLast
theorem uintB_u8 : ∀ (k : Nat) (n : Int), U8s (uintB k n)
  | 0, n => by intro x hx; obtain rfl := List.mem_singleton.1 hx; omega
  | k + 1, n => by
    intro x hx
    simp only [uintB] at hx
    split at hx
    · rcases List.mem_cons.1 hx with rfl | hx
      · rw [more_val]; omega
      · exact uintB_u8 k _ x hx
    · obtain rfl := List.mem_singleton.1 hx; omega
theorem u8_app {a b : List Int} (ha : U8s a) (hb : U8s b) : U8s (a ++ b) := fun x hx => (List.mem_append.1 hx).elim (ha x) (hb x)
theorem pieceB_u8 (p : S80) : U8s (pieceB p) := by
  unfold pieceB tailB nums
  have i1 : ∀ n, U8s (intB n) := fun n => uintB_u8 9 _
  refine u8_app (i1 _) (u8_app (i1 _) ?_)
  split
  · intro x hx; cases hx
  · refine u8_app ?_ (uintB_u8 9 _)
    intro x hx
    obtain ⟨y, _, hy⟩ := List.mem_flatMap.1 hx
    exact i1 y x hy
theorem encB_u8 (l : List S80) : U8s (encB l) := by
  unfold encB
  refine u8_app (uintB_u8 9 _) ?_
  intro x hx
  obtain ⟨y, _, hy⟩ := List.mem_flatMap.1 hx
  exact pieceB_u8 y x hy
theorem u8_inj {a b : List Int} (ha : U8s a) (hb : U8s b) (h : strOfNums a = strOfNums b) : a = b := by
  rw [← bytes_back a ha, ← bytes_back b hb, h]
theorem dec_enc (X : List Int) (hX : U8s X) : (decF X = ([], 2)) ∨ ∃ z, decF X = (z, 0) ∧ encF z = (X, 0) ∧ z.all goodU = true := by
  unfold decF
  split
  · rename_i h
    obtain ⟨h1, h2, h3⟩ := h
    refine .inr ⟨_, rfl, ?_, decLoop_good 256 _ 0 0 [] _ rfl⟩
    have he : encF (decRd X).1 = (encB (decRd X).1, 0) := by
      unfold encF at h2 ⊢
      split at h2
      · rename_i h; rw [if_pos h]
      · rename_i h; exact absurd h2 h
    rw [he] at h3 ⊢
    have h4 : strOfNums (encB (decRd X).1) = strOfNums X := by
      have h5 := eq_of_beq h3
      simp only [Go.Lib.strOfNums_toList] at h5
      have : (strOfNums (encB (decRd X).1)).data.toList = (strOfNums X).data.toList := h5
      have h6 := Array.toList_inj.1 this
      cases hA : strOfNums (encB (decRd X).1) with
      | mk a =>
        cases hB : strOfNums X with
        | mk b =>
          rw [hA, hB] at h6
          exact congrArg _ h6
    rw [u8_inj (encB_u8 _) hX h4]
  · exact .inl rfl
theorem enc_nil : encF [] = ([], 2) := by unfold encF unpackF unpackGo; rfl
theorem list_parse (B : List Int) (hB : B.length ≤ 1000000000) : listF ⟨uintB 9 (B.length : Int) ++ B, 0⟩ = (B, ⟨[], 0⟩) := by
  have h := uint_parse (B.length : Int) (by omega) (by omega) B
  unfold listF
  rw [h]
  simp only
  have hb : lenBad (B.length : Int) ⟨B, 0⟩ = false := decide_eq_false (by simp)
  rw [hb]
  simp
end Go.Proofs.Ytgmbjgddelcceaa.P
