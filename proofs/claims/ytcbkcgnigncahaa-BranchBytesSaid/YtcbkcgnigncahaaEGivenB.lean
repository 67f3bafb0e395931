import Derived.Test.YtcbkcgnigncahaaEGivenA
import Derived.Lib.ConvBytes
import Derived.Lib.Strings
namespace Go.Proofs.Ytcbkcgnigncahaa.P
open Go.RowKit Go.Maps Go.Proofs.YtcbkcgnigncahaaW.PrintWords Go.Proofs.YtcbkcgnigncahaaW.PrintLast Go.Proofs.YtcbkcgnigncahaaW.PrintMore
attribute [local go_sem] max2_int min2_int max_two min_two max_three min_three max_four min_four
set_option linter.unusedVariables false
set_option linter.unusedSimpArgs false
theorem conv_bytes (w : World) (s : ByteArray) (hs : s.size ≤ maxLen) : ∃ (w1 : World) (cap : Nat), (convert 9 63 (.string s)).run Try.prog w = .ok (.slice (some ⟨w.heap.size, 0, none⟩) s.size cap) w1 ∧ Kd.C (Kd.int .u8) w1 (some ⟨w.heap.size, 0, none⟩) s.size (bytesOf s) ∧ Below w.heap.size w w1 := by
  refine ⟨_, _, Go.Lib.run_convert_string_bytes w 9 63 5 s Try.underlying9 Try.underlying63 Try.underlying5, ?_, ?_⟩
  · refine ⟨by rw [bytesOf_length], hs, fun _ => ⟨_, rfl, fun j u hj => ?_⟩⟩
    have hjl : j < s.size := by
      have := (List.getElem?_eq_some_iff.1 hj).1
      rwa [bytesOf_length] at this
    have hc := Go.Lib.bytesWorld_cell w 5 s j hjl
    have hu : ((s.data.toList.getD j 0).toNat : Int) = u := by
      have h2 := (List.getElem?_eq_some_iff.1 hj).2
      rw [← h2]
      have h3 : j < s.data.toList.length := by simpa using hjl
      simp [bytesOf, List.getD_eq_getElem?_getD, List.getElem?_eq_getElem h3]
    refine ⟨[.int .u8 u], rfl, rfl, ?_⟩
    intro i v hi
    match i, hi with
    | 0, hi =>
      cases hi
      have e3 : (⟨w.heap.size, 0, none⟩ : Addr).add (j * 1 + 0) = ⟨w.heap.size, j, none⟩ := by simp [Addr.add]; intro h; omega
      show World.cell? _ ((⟨w.heap.size, 0, none⟩ : Addr).add (j * 1 + 0)) = _
      rw [e3, hc, hu]
    | n + 1, hi => cases hi
  · refine ⟨rfl, rfl, rfl, by rw [Go.Lib.bytesWorld_size]; omega, fun k hk => Go.Lib.bytesWorld_at_old w 5 s k hk⟩
def charB (c : Int) : Bool := (decide (97 ≤ c) && decide (c ≤ 122)) || ((decide (48 ≤ c) && decide (c ≤ 57)) || c == 45)
def firstB (s : ByteArray) : Int := rd (bytesOf s) 0
def validB (s : ByteArray) : Bool := decide (1 ≤ s.size) && (decide (s.size ≤ 16) && (decide (97 ≤ firstB s) && (decide (firstB s ≤ 122) && (bytesOf s).all charB)))
set_option maxHeartbeats 2000000 in
set_option maxRecDepth 100000 in
theorem valid_calls (s : ByteArray) (w : World) (hs : s.size ≤ maxLen) : Calls Try.prog 40 #[.string s] w fun e w' => e = .returned (.bool (validB s)) ∧ Below w.heap.size w w' := by
  by_cases h0 : s.size = 0
  · have he : s = ⟨#[]⟩ := by
      cases s with
      | mk d => 
        have : d.size = 0 := h0
        rw [Array.size_eq_zero_iff.1 this]
    subst he
    have hf : validB ⟨#[]⟩ = false := rfl
    rw [hf]
    clear hf
    go_enter Try.func40, Try.ntmps40
    go_wp2
    go_ret
    exact ⟨rfl, Below.refl _ _⟩
  · by_cases h16 : s.size ≤ 16
    · have hpos : 0 < s.size := by omega
      have hfst : firstB s = ((s[0]'hpos).toNat : Int) := by
        unfold firstB rd bytesOf
        have h3 : 0 < s.data.toList.length := by simpa using hpos
        simp [List.getD_eq_getElem?_getD, List.getElem?_eq_getElem h3]
        rfl
      have hne : s.toList.isEmpty = false := by
        cases h : s.toList.isEmpty with
        | false => rfl
        | true =>
          exfalso
          have h2 : s.toList = [] := List.isEmpty_iff.1 h
          have h3 : s.toList.length = s.size := by rw [Go.Lib.toList_data]; simp
          rw [h2] at h3
          simp at h3
          omega
      have h17 : decide (16 < (s.size : Int)) = false := decide_eq_false (by omega)
      by_cases h1 : ((s[0]'hpos).toNat : Int) < 97
      · have hf : validB s = false := by
          unfold validB
          rw [hfst, decide_eq_false (show ¬ ((97 : Int) ≤ ((s[0]'hpos).toNat : Int)) by omega)]
          simp
        have HF := Aside0.mk hf
        clear hf hfst
        go_enter Try.func40, Try.ntmps40
        go_wp2
        go_ret
        exact ⟨by rw [HF.out]; rfl, Below.refl _ _⟩
      · by_cases h2 : (122 : Int) < ((s[0]'hpos).toNat : Int)
        · have hf : validB s = false := by
            unfold validB
            rw [hfst, decide_eq_false (show ¬ (((s[0]'hpos).toNat : Int) ≤ 122) by omega)]
            simp
          have HF := Aside0.mk hf
          have h1' : (97 : Int) ≤ ((s[0]'hpos).toNat : Int) := by omega
          clear hf hfst h1
          go_enter Try.func40, Try.ntmps40
          go_wp2
          go_ret
          exact ⟨by rw [HF.out]; rfl, Below.refl _ _⟩
        · have hf : validB s = (bytesOf s).all charB := by
            unfold validB
            rw [hfst, decide_eq_true (show (97 : Int) ≤ ((s[0]'hpos).toNat : Int) by omega), decide_eq_true (show ((s[0]'hpos).toNat : Int) ≤ 122 by omega), decide_eq_true h16, decide_eq_true (show 1 ≤ s.size by omega)]
            simp
          have HF := Aside0.mk hf
          have h1' : (97 : Int) ≤ ((s[0]'hpos).toNat : Int) := by omega
          have h2' : ((s[0]'hpos).toNat : Int) ≤ 122 := by omega
          obtain ⟨w1, cap, hcv, hC, hB⟩ := conv_bytes w s hs
          have HC := Aside0.mk hC
          have HB := Aside0.mk hB
          have hL := bytesOf_length s
          obtain ⟨bs, hbs⟩ : ∃ bs, bs = bytesOf s := ⟨_, rfl⟩
          rw [← hbs] at HC HF hL
          have HL := Aside0.mk hL
          clear hf hfst h1 h2 hC hB hL hbs
          go_enter Try.func40, Try.ntmps40
          go_wp2
          go_loop [25] (fun v => ∃ i : Int, v = .int .i64 i ∧ Aside0 (0 ≤ i ∧ i ≤ s.size ∧ (bs.take i.toNat).all charB = true)) (fun v => s.size - (intOf v).toNat)
          case atStart => exact ⟨0, rfl, ⟨by omega, by omega, rfl⟩⟩
          case round =>
            obtain ⟨i, rfl, HI⟩ := hrel
            have i0 := HI.out.1
            by_cases hlt : i < (s.size : Int)
            · obtain ⟨ad, e, hc⟩ := Kd.at_int HC.out i i0 hlt
              obtain rfl := Option.some.inj e
              have e3 : (⟨w.heap.size, 0, none⟩ : Addr).add i.toNat = ⟨w.heap.size, i.toNat, none⟩ := by simp [Addr.add]; intro h; omega
              rw [e3] at hc
              clear e3
              have hil : i.toNat < bs.length := by rw [HL.out]; omega
              have hts : bs.take (i + 1).toNat = bs.take i.toNat ++ [rd bs i] := by
                rw [show (i + 1).toNat = i.toNat + 1 from by omega, List.take_succ_eq_append_getElem hil]
                congr 1
                simp [rd, List.getD_eq_getElem?_getD, List.getElem?_eq_getElem hil]
              have HTS := Aside0.mk hts
              have hmem : rd bs i ∈ bs := by
                have : rd bs i = bs[i.toNat] := by simp [rd, List.getD_eq_getElem?_getD, List.getElem?_eq_getElem hil]
                rw [this]; exact List.getElem_mem _
              have HM := Aside0.mk hmem
              have hwi : wrap64 (i + 1) = i + 1 := by unfold wrap64; unfold maxLen at hs; omega
              clear hts hmem
              generalize rd bs i = ch at hc HTS HM
              cases hch : charB ch with
              | true =>
                have HCH := Aside0.mk hch
                have done : Aside0 ((bs.take (i + 1).toNat).all charB = true) := ⟨by rw [HTS.out, List.all_append, HI.out.2.2]; simp [HCH.out]⟩
                unfold charB at hch
                by_cases a1 : 97 ≤ ch
                · by_cases a2 : ch ≤ 122
                  · clear hch
                    go_wp2
                    go_round
                    case rel => exact ⟨i + 1, rfl, ⟨by omega, by omega, done.out⟩⟩
                    case measure => simp [intOf, hwi]; omega
                  · have b1 : 48 ≤ ch := by omega
                    have b2 : ¬ ch ≤ 57 := by omega
                    have b3 : (ch == 45) = false := beq_eq_false_iff_ne.mpr (by omega)
                    exfalso
                    rw [decide_eq_false a2, decide_eq_false b2, b3] at hch
                    simp at hch
                · by_cases b1 : 48 ≤ ch
                  · by_cases b2 : ch ≤ 57
                    · clear hch
                      go_wp2
                      go_round
                      case rel => exact ⟨i + 1, rfl, ⟨by omega, by omega, done.out⟩⟩
                      case measure => simp [intOf, hwi]; omega
                    · exfalso
                      have b3 : (ch == 45) = false := beq_eq_false_iff_ne.mpr (by omega)
                      rw [decide_eq_false a1, decide_eq_false b2, b3] at hch
                      simp at hch
                  · have b3 : ch = 45 := by
                      rw [decide_eq_false a1, decide_eq_false b1] at hch
                      simpa using hch
                    subst b3
                    clear hch a1 b1
                    go_wp2
                    go_round
                    case rel => exact ⟨i + 1, rfl, ⟨by omega, by omega, done.out⟩⟩
                    case measure => simp [intOf, hwi]; omega
              | false =>
                have hall : bs.all charB = false := by
                  cases h : bs.all charB with
                  | false => rfl
                  | true => have := List.all_eq_true.1 h _ HM.out; rw [hch] at this; cases this
                have HA := Aside0.mk hall
                clear hall
                unfold charB at hch
                have hch2 := hch
                simp only [Bool.or_eq_false_iff, Bool.and_eq_false_iff, decide_eq_false_iff_not] at hch2
                obtain ⟨k1, k2, k3⟩ := hch2
                have HK := Aside0.mk k1
                have HK2 := Aside0.mk k2
                clear hch k1 k2
                by_cases a1 : 97 ≤ ch
                · have a2 : decide (ch ≤ 122) = false := decide_eq_false (by have := HK.out; omega)
                  have b1 : 48 ≤ ch := by omega
                  have b2 : decide (ch ≤ 57) = false := decide_eq_false (by have := HK.out; omega)
                  go_wp2
                  go_ret
                  exact ⟨by rw [HF.out, HA.out]; rfl, HB.out⟩
                · by_cases b1 : 48 ≤ ch
                  · have b2 : decide (ch ≤ 57) = false := decide_eq_false (by have := HK2.out; omega)
                    go_wp2
                    go_ret
                    exact ⟨by rw [HF.out, HA.out]; rfl, HB.out⟩
                  · go_wp2
                    go_ret
                    exact ⟨by rw [HF.out, HA.out]; rfl, HB.out⟩
            · go_wp2
              go_ret
              have hall : bs.all charB = true := by
                have := HI.out.2.2
                rwa [List.take_of_length_le (by rw [HL.out]; omega)] at this
              exact ⟨by rw [HF.out, hall]; rfl, HB.out⟩
    · have hf : validB s = false := by simp [validB, h16]
      have HF := Aside0.mk hf
      have h17 : decide (16 < (s.size : Int)) = true := decide_eq_true (by omega)
      have hpos : 0 < s.size := by omega
      have hne : s.toList.isEmpty = false := by
        cases h : s.toList.isEmpty with
        | false => rfl
        | true =>
          exfalso
          have h2 : s.toList = [] := List.isEmpty_iff.1 h
          have h3 : s.toList.length = s.size := by rw [Go.Lib.toList_data]; simp
          rw [h2] at h3
          simp at h3
          omega
      clear hf h16
      go_enter Try.func40, Try.ntmps40
      go_wp2
      go_ret
      exact ⟨by rw [HF.out]; rfl, Below.refl _ _⟩
end Go.Proofs.Ytcbkcgnigncahaa.P
