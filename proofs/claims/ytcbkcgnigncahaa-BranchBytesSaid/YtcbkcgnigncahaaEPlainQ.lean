import Derived.Test.YtcbkcgnigncahaaEPx1
import Derived.Test.YtcbkcgnigncahaaEGivenZc
import Derived.Lib.Zigzag
import Derived.Laws.BitsAllLaws
namespace Go.Proofs.Ytcbkcgnigncahaa.P
open Go.RowKit Go.Proofs.YtcbkcgnigncahaaW.PrintWords
set_option linter.unusedVariables false
set_option linter.unusedSimpArgs false
theorem wfI {x : Int} (h : (Lit.int .i64 x).wf = true) : -9223372036854775808 ≤ x ∧ x ≤ 9223372036854775807 := by
  simp [Lit.wf, IntKind.min, IntKind.max, IntKind.signed, IntKind.bits] at h
  omega
theorem w64 {x : Int} (h : -9223372036854775808 ≤ x ∧ x ≤ 9223372036854775807) : wrap64 x = x := by unfold wrap64; omega
theorem tmod_nn {a b : Int} (ha : 0 ≤ a) (hb : 0 < b) : Int.tmod a b = a % b ∧ 0 ≤ Int.tmod a b ∧ Int.tmod a b < b := by
  rw [Int.tmod_eq_emod_of_nonneg ha]
  exact ⟨rfl, Int.emod_nonneg _ (by omega), Int.emod_lt_of_pos _ hb⟩
theorem around_some (n most : Int) (hn : (Lit.int .i64 n).wf = true) (hm : 1 ≤ most) (hm2 : most ≤ 9223372036854775807) : ∃ r, skymosaicref01_Around.f n most = some r ∧ 0 ≤ r ∧ r < most := by
  have h := wfI hn
  unfold skymosaicref01_Around.f
  by_cases hneg : n < 0
  · rw [if_pos hneg, if_neg (by omega), w64 (x := n + 1) (by omega), w64 (by omega)]
    have := tmod_nn (a := -(n + 1)) (b := most) (by omega) (by omega)
    exact ⟨_, rfl, this.2.1, this.2.2⟩
  · rw [if_neg hneg, if_neg (by omega)]
    have := tmod_nn (a := n) (b := most) (by omega) (by omega)
    exact ⟨_, rfl, this.2.1, this.2.2⟩
end Go.Proofs.Ytcbkcgnigncahaa.P
set_option linter.unusedVariables false
set_option linter.unusedSimpArgs false
namespace Go.Proofs.Ytcbkcgnigncahaa.P.Wr
open Go.RowKit Go.Proofs.YtcbkcgnigncahaaW.PrintWords Go.Proofs.YtcbkcgnigncahaaW.PrintLast
def isI (x : Int) : Prop := -9223372036854775808 ≤ x ∧ x ≤ 9223372036854775807
theorem or128 : ∀ b : Fin 256, Go.bits .or .u8 ((b.val : Nat) : Int) 128 = 128 + ((b.val : Nat) : Int) % 128 := by decide +kernel
theorem more_eq (n : Int) (h0 : 0 ≤ n) (h : n < 18446744073709551616) : moreB n = (IntKind.u64.wrap (128 + Int.tmod n 128)) % 256 := by
  have h1 := or128 ⟨(n % 256).toNat, by omega⟩
  have h2 : (((n % 256).toNat : Nat) : Int) = n % 256 := by omega
  simp only [h2] at h1
  unfold moreB
  rw [h1, Int.tmod_eq_emod_of_nonneg h0]
  have h3 : IntKind.u64.wrap (128 + n % 128) = (128 + n % 128) % 18446744073709551616 := by simp [IntKind.wrap, IntKind.signed, IntKind.bits]
  rw [h3]; omega
theorem ruint_loop : ∀ (j : Nat) (n : Int) (cs : List Int), 0 ≤ n → n < 18446744073709551616 → n < 128 * 128 ^ j → cs.length + j ≤ 1000000 → Ev (fun k => skymosaicref02_Uint.l0 k n cs) (cs ++ uintB j n) := by
  have fin : ∀ (j : Nat) (n : Int) (cs : List Int), ¬ 128 ≤ n → cs.length + j ≤ 1000000 → Ev (fun k => skymosaicref02_Uint.l0 k n cs) (cs ++ uintB j n) := by
    intro j n cs hn hl
    rw [uintB_end j n hn]
    refine Ev.step (f := fun _ => some (cs ++ [n % 256])) (fun k => ?_) (Ev.now _)
    conv => lhs; unfold skymosaicref02_Uint.l0
    rw [if_neg (by omega), if_pos (by omega)]
  intro j
  induction j with
  | zero => intro n cs h0 h1 h2 hl; exact fin 0 n cs (by omega) hl
  | succ j ih =>
    intro n cs h0 h1 h2 hl
    by_cases hn : 128 ≤ n
    · have hq : (128 : Int) ^ (j + 1) = 128 ^ j * 128 := Int.pow_succ _ _
      rw [hq] at h2
      have hs := ih (n / 128) (cs ++ [moreB n]) (by omega) (by omega) (by generalize (128 : Int) ^ j = q at h2 ⊢; omega) (by simp; omega)
      simp only [uintB]
      rw [if_pos hn]
      rw [List.append_assoc] at hs
      refine Ev.step (f := fun k => skymosaicref02_Uint.l0 k (n / 128) (cs ++ [moreB n])) (fun k => ?_) hs
      conv => lhs; unfold skymosaicref02_Uint.l0
      have h3 : IntKind.u64.wrap (Int.tdiv n 128) = n / 128 := by
        rw [Int.tdiv_eq_ediv_of_nonneg h0]
        have : IntKind.u64.wrap (n / 128) = (n / 128) % 18446744073709551616 := by simp [IntKind.wrap, IntKind.signed, IntKind.bits]
        rw [this]; omega
      rw [if_pos (by omega), if_pos (by omega), h3, more_eq n h0 h1]
    · exact fin (j + 1) n cs hn hl
theorem ruint_ends (n : Int) (h0 : 0 ≤ n) (h1 : n < 18446744073709551616) : Ev (fun k => skymosaicref02_Uint.f k n) (uintB 9 n) := by
  have := ruint_loop 9 n [] h0 h1 (Int.lt_of_lt_of_le h1 (by decide)) (by simp)
  exact (by simpa using this : Ev (fun k => skymosaicref02_Uint.l0 k n []) (uintB 9 n))
theorem w_u64 (x : Int) : IntKind.u64.wrap x = x % 18446744073709551616 := by simp [IntKind.wrap, IntKind.signed, IntKind.bits]
theorem zig_eq (a : Int) (h : -9223372036854775808 ≤ a ∧ a ≤ 9223372036854775807) : skymosaicref02_Zigzag.f a = some (zigF a) := by
  unfold skymosaicref02_Zigzag.f zigF
  rw [w_u64 a, w_u64 (a % 18446744073709551616 * 2), w_u64 (a / 9223372036854775808)]
  by_cases hn : a < 0
  · rw [if_pos hn, w64 (x := a + 1) (by omega), w64 (by omega)]
    rw [u64_xor _ _ (by omega) (by omega) (by omega) (by omega)]
    have e1 : (a / 9223372036854775808 % 18446744073709551616).toNat = 2 ^ 64 - 1 := by omega
    have e2 : (a % 18446744073709551616 * 2 % 18446744073709551616).toNat = (2 * a + 18446744073709551616).toNat := by omega
    rw [e1, e2, Nat.xor_comm, Go.Lib.xor_ones64 _ (by omega)]
    simp only [w_u64]
    congr 1
    omega
  · rw [if_neg hn]
    rw [u64_xor _ _ (by omega) (by omega) (by omega) (by omega)]
    have e1 : (a / 9223372036854775808 % 18446744073709551616).toNat = 0 := by omega
    rw [e1, Nat.xor_zero]
    simp only [w_u64]
    congr 1
    omega
theorem rint_ends (a : Int) (h : -9223372036854775808 ≤ a ∧ a ≤ 9223372036854775807) : Ev (fun k => skymosaicref02_Int.f k a) (intB a) := by
  have hz := zig_range a
  refine Ev.congr (f := fun k => (skymosaicref02_Uint.f k (zigF a)).bind fun t => some t) (fun k => ?_) ?_
  · unfold skymosaicref02_Int.f
    rw [zig_eq a h]
    rfl
  · exact Ev.bind (ruint_ends (zigF a) hz.1 hz.2) (Ev.now _)
theorem more_val (n : Int) : moreB n = 128 + n % 128 := by
  have h1 := or128 ⟨(n % 256).toNat, by omega⟩
  have h2 : (((n % 256).toNat : Nat) : Int) = n % 256 := by omega
  simp only [h2] at h1
  unfold moreB
  rw [h1]; omega
theorem clear128 : ∀ b : Fin 256, Go.bits .andNot .u8 ((b.val : Nat) : Int) 128 = ((b.val : Nat) : Int) % 128 := by decide +kernel
theorem clear_val (c : Int) (h0 : 0 ≤ c) (h1 : c < 256) : Go.bits .andNot .u8 c 128 = c % 128 := by
  have h := clear128 ⟨c.toNat, by omega⟩
  have h2 : ((c.toNat : Nat) : Int) = c := by omega
  simp only [h2] at h
  exact h
theorem or_join (a b : Int) (i : Nat) (ha : 0 ≤ a) (ha2 : a < 2 ^ i) (hb : 0 ≤ b) (hs : a + b * 2 ^ i < 18446744073709551616) : Go.bits .or .u64 a (b * 2 ^ i) = a + b * 2 ^ i := by
  have hp : (0 : Int) < 2 ^ i := Int.pow_pos (by decide)
  have hbp : 0 ≤ b * 2 ^ i := Int.mul_nonneg hb (Int.le_of_lt hp)
  have ha3 : a < 18446744073709551616 := by omega
  rw [u64_or a (b * 2 ^ i) ha ha3 hbp (by omega)]
  obtain ⟨an, rfl⟩ := Int.eq_ofNat_of_zero_le ha
  obtain ⟨bn, rfl⟩ := Int.eq_ofNat_of_zero_le hb
  have e : ((bn : Int) * 2 ^ i).toNat = bn * 2 ^ i := by
    have : ((bn : Int) * 2 ^ i) = ((bn * 2 ^ i : Nat) : Int) := by simp
    rw [this]; rfl
  rw [e, Int.toNat_natCast, Nat.or_comm, nat_join i (bn * 2 ^ i) an (Nat.mul_mod_left _ _) (by exact_mod_cast ha2)]
  simp
  omega
theorem acc_val (n i c m : Int) (h0 : 0 ≤ c) (h1 : c < 256) (hm : c % 128 = m) (hi : 0 ≤ i) (hi9 : i ≤ 9) (hn : 0 ≤ n) (hn2 : n < 128 ^ i.toNat) (hs : n + m * 128 ^ i.toNat < 18446744073709551616) : accN n i c = n + m * 128 ^ i.toNat := by
  have hp : (128 : Int) ^ i.toNat = 2 ^ (7 * i).toNat := by
    have e : (7 * i).toNat = 7 * i.toNat := by omega
    rw [e, Int.pow_mul]; rfl
  rw [hp] at hn2 hs ⊢
  have hpp : (0 : Int) < 2 ^ (7 * i).toNat := Int.pow_pos (by decide)
  have hm0 : 0 ≤ m := by omega
  have hmp : 0 ≤ m * 2 ^ (7 * i).toNat := Int.mul_nonneg hm0 (Int.le_of_lt hpp)
  unfold accN
  rw [clear_val c h0 h1, hm, w_u64 m, Int.emod_eq_of_lt hm0 (by omega), w_u64, Int.emod_eq_of_lt hmp (by omega)]
  exact or_join n m _ hn hn2 hm0 hs
theorem uint_parse_go (rest : List Int) : ∀ (j : Nat) (i acc m : Int), i + j = 9 → 0 ≤ i → 0 ≤ acc → acc < 128 ^ i.toNat → 0 ≤ m → (i = 0 ∨ 0 < m) → acc + m * 128 ^ i.toNat < 18446744073709551616 →
    uintL (j + 2) i acc ⟨uintB j m ++ rest, 0⟩ = (acc + m * 128 ^ i.toNat, ⟨rest, 0⟩) := by
  have fin : ∀ (j : Nat) (i acc m : Int), i + j = 9 → 0 ≤ i → 0 ≤ acc → acc < 128 ^ i.toNat → 0 ≤ m → m < 128 → (i = 0 ∨ 0 < m) → acc + m * 128 ^ i.toNat < 18446744073709551616 →
      uintL (j + 2) i acc ⟨uintB j m ++ rest, 0⟩ = (acc + m * 128 ^ i.toNat, ⟨rest, 0⟩) := by
    intro j i acc m hij hi ha ha2 hm hlt hz hs
    rw [uintB_end j m (by omega), show m % 256 = m from by omega]
    have hnx : nextF ⟨[m] ++ rest, 0⟩ = (m, ⟨rest, 0⟩) := rfl
    have hbad : badB i m = false := by
      unfold badB
      have h1 : (i == 9 && decide (m > 1)) = false := by
        by_cases h9 : i = 9
        · have hm1 : ¬ m > 1 := by
            intro h
            rw [h9] at hs
            have : (2 : Int) * 128 ^ (9 : Int).toNat ≤ m * 128 ^ (9 : Int).toNat := Int.mul_le_mul_of_nonneg_right (by omega) (by decide)
            have e : (2 : Int) * 128 ^ (9 : Int).toNat = 18446744073709551616 := by decide
            omega
          rw [decide_eq_false hm1, Bool.and_false]
        · rw [beq_eq_false_iff_ne.mpr h9, Bool.false_and]
      have h2 : (decide (i > 0) && m == 0) = false := by
        rcases hz with h | h
        · rw [decide_eq_false (by omega), Bool.false_and]
        · rw [beq_eq_false_iff_ne.mpr (by omega), Bool.and_false]
      rw [h1, h2]; rfl
    simp only [uintL]
    rw [if_pos trivial, hnx]
    simp only [hbad]
    rw [if_pos ⟨hlt, rfl⟩, acc_val acc i m m hm (by omega) (by omega) hi (by omega) ha ha2 hs]
    rfl
  intro j
  induction j with
  | zero =>
    intro i acc m hij hi ha ha2 hm hz hs
    refine fin 0 i acc m hij hi ha ha2 hm ?_ hz hs
    have h9 : i = 9 := by omega
    rw [h9] at hs
    by_cases h : m < 128
    · exact h
    · exfalso
      have h : 128 ≤ m := by omega
      have : (128 : Int) * 128 ^ (9 : Int).toNat ≤ m * 128 ^ (9 : Int).toNat := Int.mul_le_mul_of_nonneg_right h (by decide)
      have e : (128 : Int) * 128 ^ (9 : Int).toNat = 1180591620717411303424 := by decide
      omega
  | succ j ih =>
    intro i acc m hij hi ha ha2 hm hz hs
    by_cases h128 : 128 ≤ m
    · have hb : uintB (j + 1) m = moreB m :: uintB j (m / 128) := by simp only [uintB]; rw [if_pos h128]
      rw [hb, more_val]
      have hnx : nextF ⟨(128 + m % 128) :: uintB j (m / 128) ++ rest, 0⟩ = (128 + m % 128, ⟨uintB j (m / 128) ++ rest, 0⟩) := rfl
      have hp : (0 : Int) < 128 ^ i.toNat := Int.pow_pos (by decide)
      have hpow : (128 : Int) ^ (i + 1).toNat = 128 ^ i.toNat * 128 := by rw [show (i + 1).toNat = i.toNat + 1 from by omega, Int.pow_succ]
      have hsplit : m * 128 ^ i.toNat = (m % 128) * 128 ^ i.toNat + (m / 128) * (128 ^ i.toNat * 128) := by
        have : m = m % 128 + m / 128 * 128 := by omega
        calc m * 128 ^ i.toNat = (m % 128 + m / 128 * 128) * 128 ^ i.toNat := by rw [← this]
          _ = _ := by rw [Int.add_mul, Int.mul_assoc, Int.mul_comm 128]
      have hq0 : 0 ≤ m / 128 * (128 ^ i.toNat * 128) := Int.mul_nonneg (by omega) (by omega)
      have hr0 : 0 ≤ m % 128 * 128 ^ i.toNat := Int.mul_nonneg (by omega) (by omega)
      have hr1 : m % 128 * 128 ^ i.toNat ≤ 127 * 128 ^ i.toNat := Int.mul_le_mul_of_nonneg_right (by omega) (by omega)
      have hacc : accN acc i (128 + m % 128) = acc + (m % 128) * 128 ^ i.toNat := acc_val acc i _ _ (by omega) (by omega) (by omega) hi (by omega) ha ha2 (by omega)
      have hbad : badB i (128 + m % 128) = false := by
        unfold badB
        rw [beq_eq_false_iff_ne.mpr (show i ≠ 9 by omega), beq_eq_false_iff_ne.mpr (show 128 + m % 128 ≠ 0 by omega)]
        simp
      have := ih (i + 1) (acc + (m % 128) * 128 ^ i.toNat) (m / 128) (by omega) (by omega) (by omega) (by rw [hpow]; omega) (by omega) (.inr (by omega)) (by rw [hpow]; omega)
      rw [hpow] at this
      show uintL ((j + 2) + 1) i acc _ = _
      unfold uintL
      rw [if_pos rfl, hnx]
      simp only [hbad]
      rw [if_neg (by simp only [Bool.false_eq_true, if_false]; omega), hacc]
      simp only [Bool.false_eq_true, if_false]
      rw [this, hsplit]
      congr 1
      omega
    · exact fin (j + 1) i acc m hij hi ha ha2 hm (by omega) hz hs
theorem uint_parse (n : Int) (h0 : 0 ≤ n) (h1 : n < 18446744073709551616) (rest : List Int) : uintF ⟨uintB 9 n ++ rest, 0⟩ = (n, ⟨rest, 0⟩) := by
  have := uint_parse_go rest 9 0 0 n (by omega) (by omega) (by omega) (by decide) h0 (.inl rfl) (by simpa using h1)
  unfold uintF
  rw [this]
  simp
theorem zig_val (a : Int) (h : isI a) : zigF a = if a < 0 then -2 * a - 1 else 2 * a := by
  have h2 := zig_eq a h
  unfold skymosaicref02_Zigzag.f at h2
  obtain ⟨ha, hb⟩ := h
  by_cases hn : a < 0
  · rw [if_pos hn] at h2 ⊢
    have h3 := Option.some.inj h2
    rw [← h3, w64 (x := a + 1) (by omega), w64 (by omega)]
    simp only [w_u64]
    omega
  · rw [if_neg hn] at h2 ⊢
    have h3 := Option.some.inj h2
    rw [← h3]
    simp only [w_u64]
    omega
theorem xor_comm64 (a b : Int) : Go.bits .xor .i64 a b = Go.bits .xor .i64 b a := by
  show IntKind.i64.wrap ((BitVec.ofInt 64 a ^^^ BitVec.ofInt 64 b).toNat : Int) = IntKind.i64.wrap ((BitVec.ofInt 64 b ^^^ BitVec.ofInt 64 a).toNat : Int)
  rw [BitVec.xor_comm]
theorem xor_zero64 (x : Nat) (hx : x < 9223372036854775808) : Go.bits .xor .i64 (x : Int) 0 = (x : Int) := by
  show IntKind.i64.wrap ((BitVec.ofInt 64 (x : Int) ^^^ BitVec.ofInt 64 0).toNat : Int) = _
  have h1 : BitVec.ofInt 64 (x : Int) ^^^ BitVec.ofInt 64 0 = BitVec.ofInt 64 (x : Int) := by show _ ^^^ 0#64 = _; exact BitVec.xor_zero
  have h2 : (BitVec.ofInt 64 (x : Int)).toNat = x := by
    rw [BitVec.ofInt_natCast, BitVec.toNat_ofNat]; exact Nat.mod_eq_of_lt (by omega)
  rw [h1, h2, IntKind.wrap_i64]
  omega
theorem unzig_zig (a : Int) (h : isI a) : unzigF (zigF a) = a := by
  have hz := zig_val a h
  have hr := zig_range a
  obtain ⟨ha, hb⟩ := h
  unfold unzigF
  rw [Go.Lib.u64_and1 _ hr.1 hr.2]
  by_cases hn : a < 0
  · rw [if_pos hn] at hz
    rw [hz, w64 (x := (-2 * a - 1) / 2) (by omega), show (-2 * a - 1) % 2 = 1 from by omega, show wrap64 (-(wrap64 1)) = -1 from by unfold wrap64; omega, xor_comm64]
    have e : (-2 * a - 1) / 2 = (((-a - 1).toNat : Nat) : Int) := by omega
    rw [e, Go.Lib.i64_not _ (by omega)]
    omega
  · rw [if_neg hn] at hz
    rw [hz, w64 (x := 2 * a / 2) (by omega), show (2 * a) % 2 = 0 from by omega, show wrap64 (-(wrap64 0)) = 0 from by unfold wrap64; omega]
    have e : 2 * a / 2 = ((a.toNat : Nat) : Int) := by omega
    rw [e, xor_zero64 _ (by omega)]
    omega
theorem int_parse (n : Int) (h : isI n) (rest : List Int) : rintF ⟨intB n ++ rest, 0⟩ = (n, ⟨rest, 0⟩) := by
  have hr := zig_range n
  unfold rintF intB
  rw [uint_parse _ hr.1 hr.2, unzig_zig n h]
theorem uintB_u8 : ∀ (k : Nat) (n : Int), U8s (uintB k n)
  | 0, n => by intro x hx; obtain rfl := List.mem_singleton.1 hx; omega
  | k + 1, n => by
    intro x hx
    simp only [uintB] at hx
    split at hx
    · rcases List.mem_cons.1 hx with rfl | hx
      · rw [more_val]; omega
      · exact uintB_u8 k _ x hx
    · obtain rfl := List.mem_singleton.1 hx; omega
theorem u8_app {a b : List Int} (ha : U8s a) (hb : U8s b) : U8s (a ++ b) := fun x hx => (List.mem_append.1 hx).elim (ha x) (hb x)
theorem u8_inj {a b : List Int} (ha : U8s a) (hb : U8s b) (h : strOfNums a = strOfNums b) : a = b := by
  rw [← bytes_back a ha, ← bytes_back b hb, h]
theorem list_parse (B : List Int) (hB : B.length ≤ 1000000000) : listF ⟨uintB 9 (B.length : Int) ++ B, 0⟩ = (B, ⟨[], 0⟩) := by
  have h := uint_parse (B.length : Int) (by omega) (by omega) B
  unfold listF
  rw [h]
  simp only
  have hb : lenBad (B.length : Int) ⟨B, 0⟩ = false := decide_eq_false (by simp)
  rw [hb]
  simp
end Go.Proofs.Ytcbkcgnigncahaa.P.Wr
