import Derived.Test.YtcbkcgnigncahaaQGivenI
namespace Go.Proofs.Ytcbkcgnigncahaa.P
open Go.RowKit Go.Maps Go.Proofs.YtcbkcgnigncahaaW.PrintWords Go.Proofs.YtcbkcgnigncahaaW.PrintLast Go.Proofs.YtcbkcgnigncahaaW.PrintMore
attribute [local go_sem] max2_int min2_int max_two min_two max_three min_three max_four min_four
set_option linter.unusedVariables false
set_option linter.unusedSimpArgs false
def digB (d : Int) : ByteArray := ⟨#[UInt8.ofNat (48 + d.toNat)]⟩
def decGo : Nat → Int → ByteArray → ByteArray
  | 0, _, acc => acc
  | k + 1, m, acc => if m = 0 then acc else decGo k (m / 10) (digB (m % 10) ++ acc)
def decimalF (n : Int) : ByteArray := if n = 0 then ⟨#[48]⟩ else decGo 20 n ⟨#[]⟩
set_option maxHeartbeats 4000000 in
set_option maxRecDepth 100000 in
theorem decimal_calls (n : Int) (h0 : 0 ≤ n) (h1 : n ≤ 9223372036854775807) (w : World) :
    Calls Try.prog 12 #[.int .i64 n] w fun e w' => e = .returned (.string (decimalF n)) ∧ w = w' := by
  by_cases hz : n = 0
  · subst hz
    go_enter Try.func12, Try.ntmps12
    go_wp2
    go_returns
    exact ⟨rfl, rfl⟩
  · have hf : decimalF n = decGo 20 n ⟨#[]⟩ := by unfold decimalF; rw [if_neg hz]
    rw [hf]
    obtain ⟨F, hF⟩ : ∃ F, decGo 20 n ⟨#[]⟩ = F := ⟨_, rfl⟩
    have HF := Aside0.mk hF
    rw [hF]
    clear hf hF
    go_enter Try.func12, Try.ntmps12
    go_wp2
    go_loopg [4, 5] 20 (fun kq v4 v5 wr => ∃ (acc : ByteArray) (m : Int), v4 = .string acc ∧ v5 = .int .i64 m ∧ Aside0 (wr = w) ∧ Aside0 (0 ≤ m ∧ m < 10 ^ kq ∧ m ≤ 9223372036854775807 ∧ decGo kq m acc = F ∧ acc.size + kq ≤ 20))
    case atStart => exact ⟨⟨#[]⟩, n, rfl, rfl, ⟨rfl⟩, ⟨h0, Int.lt_of_le_of_lt h1 (by decide), h1, HF.out, by decide⟩⟩
    case round =>
      obtain ⟨acc, m, rfl, rfl, ⟨rfl⟩, HI⟩ := hrel
      have m0 := HI.out.1
      have m1 := HI.out.2.2.1
      by_cases hm : m = 0
      · subst hm
        have hacc : acc = F := by
          have := HI.out.2.2.2.1
          cases gk with
          | zero => exact this
          | succ k => simpa [decGo] using this
        go_wp2
        go_returns
        exact ⟨by rw [← hacc]; rfl, by trivial⟩
      · obtain ⟨k', rfl⟩ : ∃ k', gk = k' + 1 := by
          cases gk with
          | zero => exfalso; have := HI.out.2.1; simp at this; omega
          | succ k' => exact ⟨k', rfl⟩
        have hne : (m != 0) = true := by rw [bne_iff_ne]; exact hm
        obtain ⟨d, hd⟩ : ∃ d, Int.tmod m 10 = d := ⟨_, rfl⟩
        obtain ⟨q, hq⟩ : ∃ q, Int.tdiv m 10 = q := ⟨_, rfl⟩
        have hd2 : d = m % 10 := by rw [← hd, Int.tmod_eq_emod_of_nonneg m0]
        have hq2 : q = m / 10 := by rw [← hq, Int.tdiv_eq_ediv_of_nonneg m0]
        have hw1 : IntKind.i64.wrap d = d := IntWalk.i64_in _ (by omega)
        have hw2 : IntKind.i64.wrap q = q := IntWalk.i64_in _ (by omega)
        have hD : d = 0 ∨ d = 1 ∨ d = 2 ∨ d = 3 ∨ d = 4 ∨ d = 5 ∨ d = 6 ∨ d = 7 ∨ d = 8 ∨ d = 9 := by omega
        have HR := Aside0.mk (And.intro hd2 hq2)
        have hs := HI.out.2.2.2.2
        clear hd2 hq2
        obtain rfl | rfl | rfl | rfl | rfl | rfl | rfl | rfl | rfl | rfl := hD
        · go_wp2
          go_roundg k'
          case measure => omega
          case rel =>
            obtain ⟨i0, i1, i2, i3, i4⟩ := HI.out
            obtain ⟨r1, r2⟩ := HR.out
            have hx : digB 0 = ByteArray.extract ⟨#[48, 49, 50, 51, 52, 53, 54, 55, 56, 57]⟩ 0 1 := by decide +kernel
            simp only [decGo] at i3
            rw [if_neg hm, ← r1, ← r2, hx] at i3
            refine ⟨_, q, rfl, rfl, ⟨by trivial⟩, ⟨by omega, ?_, by omega, i3, ?_⟩⟩
            · have hp : (10 : Int) ^ (k' + 1) = 10 ^ k' * 10 := Int.pow_succ _ _
              omega
            · rw [← hx, ByteArray.size_append]
              have : (digB 0).size = 1 := rfl
              omega
        · go_wp2
          go_roundg k'
          case measure => omega
          case rel =>
            obtain ⟨i0, i1, i2, i3, i4⟩ := HI.out
            obtain ⟨r1, r2⟩ := HR.out
            have hx : digB 1 = ByteArray.extract ⟨#[48, 49, 50, 51, 52, 53, 54, 55, 56, 57]⟩ 1 2 := by decide +kernel
            simp only [decGo] at i3
            rw [if_neg hm, ← r1, ← r2, hx] at i3
            refine ⟨_, q, rfl, rfl, ⟨by trivial⟩, ⟨by omega, ?_, by omega, i3, ?_⟩⟩
            · have hp : (10 : Int) ^ (k' + 1) = 10 ^ k' * 10 := Int.pow_succ _ _
              omega
            · rw [← hx, ByteArray.size_append]
              have : (digB 1).size = 1 := rfl
              omega
        · go_wp2
          go_roundg k'
          case measure => omega
          case rel =>
            obtain ⟨i0, i1, i2, i3, i4⟩ := HI.out
            obtain ⟨r1, r2⟩ := HR.out
            have hx : digB 2 = ByteArray.extract ⟨#[48, 49, 50, 51, 52, 53, 54, 55, 56, 57]⟩ 2 3 := by decide +kernel
            simp only [decGo] at i3
            rw [if_neg hm, ← r1, ← r2, hx] at i3
            refine ⟨_, q, rfl, rfl, ⟨by trivial⟩, ⟨by omega, ?_, by omega, i3, ?_⟩⟩
            · have hp : (10 : Int) ^ (k' + 1) = 10 ^ k' * 10 := Int.pow_succ _ _
              omega
            · rw [← hx, ByteArray.size_append]
              have : (digB 2).size = 1 := rfl
              omega
        · go_wp2
          go_roundg k'
          case measure => omega
          case rel =>
            obtain ⟨i0, i1, i2, i3, i4⟩ := HI.out
            obtain ⟨r1, r2⟩ := HR.out
            have hx : digB 3 = ByteArray.extract ⟨#[48, 49, 50, 51, 52, 53, 54, 55, 56, 57]⟩ 3 4 := by decide +kernel
            simp only [decGo] at i3
            rw [if_neg hm, ← r1, ← r2, hx] at i3
            refine ⟨_, q, rfl, rfl, ⟨by trivial⟩, ⟨by omega, ?_, by omega, i3, ?_⟩⟩
            · have hp : (10 : Int) ^ (k' + 1) = 10 ^ k' * 10 := Int.pow_succ _ _
              omega
            · rw [← hx, ByteArray.size_append]
              have : (digB 3).size = 1 := rfl
              omega
        · go_wp2
          go_roundg k'
          case measure => omega
          case rel =>
            obtain ⟨i0, i1, i2, i3, i4⟩ := HI.out
            obtain ⟨r1, r2⟩ := HR.out
            have hx : digB 4 = ByteArray.extract ⟨#[48, 49, 50, 51, 52, 53, 54, 55, 56, 57]⟩ 4 5 := by decide +kernel
            simp only [decGo] at i3
            rw [if_neg hm, ← r1, ← r2, hx] at i3
            refine ⟨_, q, rfl, rfl, ⟨by trivial⟩, ⟨by omega, ?_, by omega, i3, ?_⟩⟩
            · have hp : (10 : Int) ^ (k' + 1) = 10 ^ k' * 10 := Int.pow_succ _ _
              omega
            · rw [← hx, ByteArray.size_append]
              have : (digB 4).size = 1 := rfl
              omega
        · go_wp2
          go_roundg k'
          case measure => omega
          case rel =>
            obtain ⟨i0, i1, i2, i3, i4⟩ := HI.out
            obtain ⟨r1, r2⟩ := HR.out
            have hx : digB 5 = ByteArray.extract ⟨#[48, 49, 50, 51, 52, 53, 54, 55, 56, 57]⟩ 5 6 := by decide +kernel
            simp only [decGo] at i3
            rw [if_neg hm, ← r1, ← r2, hx] at i3
            refine ⟨_, q, rfl, rfl, ⟨by trivial⟩, ⟨by omega, ?_, by omega, i3, ?_⟩⟩
            · have hp : (10 : Int) ^ (k' + 1) = 10 ^ k' * 10 := Int.pow_succ _ _
              omega
            · rw [← hx, ByteArray.size_append]
              have : (digB 5).size = 1 := rfl
              omega
        · go_wp2
          go_roundg k'
          case measure => omega
          case rel =>
            obtain ⟨i0, i1, i2, i3, i4⟩ := HI.out
            obtain ⟨r1, r2⟩ := HR.out
            have hx : digB 6 = ByteArray.extract ⟨#[48, 49, 50, 51, 52, 53, 54, 55, 56, 57]⟩ 6 7 := by decide +kernel
            simp only [decGo] at i3
            rw [if_neg hm, ← r1, ← r2, hx] at i3
            refine ⟨_, q, rfl, rfl, ⟨by trivial⟩, ⟨by omega, ?_, by omega, i3, ?_⟩⟩
            · have hp : (10 : Int) ^ (k' + 1) = 10 ^ k' * 10 := Int.pow_succ _ _
              omega
            · rw [← hx, ByteArray.size_append]
              have : (digB 6).size = 1 := rfl
              omega
        · go_wp2
          go_roundg k'
          case measure => omega
          case rel =>
            obtain ⟨i0, i1, i2, i3, i4⟩ := HI.out
            obtain ⟨r1, r2⟩ := HR.out
            have hx : digB 7 = ByteArray.extract ⟨#[48, 49, 50, 51, 52, 53, 54, 55, 56, 57]⟩ 7 8 := by decide +kernel
            simp only [decGo] at i3
            rw [if_neg hm, ← r1, ← r2, hx] at i3
            refine ⟨_, q, rfl, rfl, ⟨by trivial⟩, ⟨by omega, ?_, by omega, i3, ?_⟩⟩
            · have hp : (10 : Int) ^ (k' + 1) = 10 ^ k' * 10 := Int.pow_succ _ _
              omega
            · rw [← hx, ByteArray.size_append]
              have : (digB 7).size = 1 := rfl
              omega
        · go_wp2
          go_roundg k'
          case measure => omega
          case rel =>
            obtain ⟨i0, i1, i2, i3, i4⟩ := HI.out
            obtain ⟨r1, r2⟩ := HR.out
            have hx : digB 8 = ByteArray.extract ⟨#[48, 49, 50, 51, 52, 53, 54, 55, 56, 57]⟩ 8 9 := by decide +kernel
            simp only [decGo] at i3
            rw [if_neg hm, ← r1, ← r2, hx] at i3
            refine ⟨_, q, rfl, rfl, ⟨by trivial⟩, ⟨by omega, ?_, by omega, i3, ?_⟩⟩
            · have hp : (10 : Int) ^ (k' + 1) = 10 ^ k' * 10 := Int.pow_succ _ _
              omega
            · rw [← hx, ByteArray.size_append]
              have : (digB 8).size = 1 := rfl
              omega
        · go_wp2
          go_roundg k'
          case measure => omega
          case rel =>
            obtain ⟨i0, i1, i2, i3, i4⟩ := HI.out
            obtain ⟨r1, r2⟩ := HR.out
            have hx : digB 9 = ByteArray.extract ⟨#[48, 49, 50, 51, 52, 53, 54, 55, 56, 57]⟩ 9 10 := by decide +kernel
            simp only [decGo] at i3
            rw [if_neg hm, ← r1, ← r2, hx] at i3
            refine ⟨_, q, rfl, rfl, ⟨by trivial⟩, ⟨by omega, ?_, by omega, i3, ?_⟩⟩
            · have hp : (10 : Int) ^ (k' + 1) = 10 ^ k' * 10 := Int.pow_succ _ _
              omega
            · rw [← hx, ByteArray.size_append]
              have : (digB 9).size = 1 := rfl
              omega
end Go.Proofs.Ytcbkcgnigncahaa.P
