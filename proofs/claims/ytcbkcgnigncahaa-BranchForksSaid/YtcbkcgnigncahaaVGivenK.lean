import Derived.Test.YtcbkcgnigncahaaVGivenJ
namespace Go.Proofs.Ytcbkcgnigncahaa.P
open Go.RowKit Go.Maps Go.Proofs.YtcbkcgnigncahaaW.PrintWords Go.Proofs.YtcbkcgnigncahaaW.PrintLast Go.Proofs.YtcbkcgnigncahaaW.PrintMore
set_option linter.unusedVariables false
set_option linter.unusedSimpArgs false
theorem publish_calls (base g b n : Nat) (s : Ln) (name : ByteArray) (a2 a3 a4 a5 : Int) (w : World) (hs0 : LS base g b n s w) (hbase : base ≤ w.heap.size) (hs : name.size ≤ maxLen) (hn : n < maxLen) (hV : s.V.length ≤ 1024) (hfst : hasB s.D name = true → firstF (lkp s.D name) < s.V.length) :
    Calls Try.prog 13 #[.pointer (some ⟨g, 0, none⟩), .string name, .int .i64 a2, .int .i64 a3, .int .i64 a4, .int .u64 a5] w fun e w' => e = .returned (.tuple #[.int .i64 (publishF s name a2 a3 a4 a5).1, .int .i64 (publishF s name a2 a3 a4 a5).2.1]) ∧ LS base g b (n + 1) (publishF s name a2 a3 a4 a5).2.2 w' ∧ Below base w w' ∧ KeepO g b w w' := by
  by_cases h : (publishF s name a2 a3 a4 a5).2.1 ≠ 0
  · exact publish_no base g b n s name a2 a3 a4 a5 w hs0 hbase hs hV hfst h
  · have h' := h
    unfold publishF at h
    by_cases c1 : hasB s.D name = false
    · rw [if_pos c1] at h; exact absurd (by intro e; cases e) h
    rw [if_neg c1] at h
    by_cases c2 : rangeB a2 a3 a4 = false
    · rw [if_pos c2] at h; exact absurd (by intro e; cases e) h
    rw [if_neg c2] at h
    by_cases c3 : 0 ≤ firstF (lkp s.D name) ∧ a3 < (rd_T43 s.V (firstF (lkp s.D name))).f4
    · rw [if_pos c3] at h; exact absurd (by intro e; cases e) h
    rw [if_neg c3] at h
    by_cases c4 : 1024 ≤ s.V.length
    · rw [if_pos c4] at h; exact absurd (by intro e; cases e) h
    have hf : publishF s name a2 a3 a4 a5 = ((s.V.length : Int), 0, ⟨s.D.put (keyB name) (lnD (lkp s.D name).1 (s.V.length : Int)), s.V ++ [⟨(s.V.length : Int), firstF (lkp s.D name), name, a2, a3, a4, a5, false⟩]⟩) := by
      unfold publishF
      rw [if_neg c1, if_neg c2, if_neg c3, if_neg c4]
    rw [hf]
    exact publish_yes base g b n s name a2 a3 a4 a5 w hs0 hbase hs hn (by omega) (firstF (lkp s.D name)) rfl (hfst (by simpa using c1)) (by simpa using c1) (by simpa using c2) (by omega) _ rfl
end Go.Proofs.Ytcbkcgnigncahaa.P
