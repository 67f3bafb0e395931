import Derived.Test.YtcbkcgnigncahaaEGivenZg
import Derived.Test.YtcbkcgnigncahaaEGivenJ
import Derived.Test.YtcbkcgnigncahaaEGivenD
namespace Go.Proofs.Ytcbkcgnigncahaa.P
open Go.RowKit Go.Maps Go.Sort Go.Proofs.YtcbkcgnigncahaaW.PrintWords Go.Proofs.YtcbkcgnigncahaaW.PrintLast Go.Proofs.YtcbkcgnigncahaaW.PrintMore
attribute [local go_sem] max2_int min2_int max_two min_two max_three min_three max_four min_four
set_option linter.unusedVariables false
set_option linter.unusedSimpArgs false
theorem Stage.congr {D0 : DataW Unit} {vs : List S43} {m : Nat} {done done' : ByteArray → Bool} {s : Ln} (h : Stage D0 vs m done s) (hd : ∀ x, hasB D0 x = true → done' x = done x) : Stage D0 vs m done' s := by
  refine ⟨h.good, h.len, h.vers, fun y => ?_, h.base⟩
  rw [h.has y]
  constructor
  · rintro ⟨h1, h2, h3⟩
    exact ⟨h1, h2, by rw [hd y h1]; exact h3⟩
  · rintro ⟨h1, h2, h3⟩
    exact ⟨h1, h2, by rw [hd y h1] at h3; exact h3⟩
theorem same_key (x y : ByteArray) : (keyB x).sameKey (keyB y) = decide (x = y) := by
  show (x.data.toList == y.data.toList) = _
  rw [Bool.eq_iff_iff]
  simp only [beq_iff_eq, decide_eq_true_eq]
  exact ⟨fun e => ByteArray.ext (Array.toList_inj.1 e), fun e => by rw [e]⟩
/-- What play answers. -/
def PlayPost (base g b : Nat) (D0 : DataW Unit) (vs : List S43) (w : World) (e : Ending) (w' : World) : Prop :=
  ∃ r s, e = .returned (.bool r) ∧ LS base g b 64 s w' ∧ Good4 s ∧ Below base w w' ∧ ∀ s0, Comes D0 vs s0 → r = true ∧ rfOf s = rfOf s0
theorem PlayPost.no {base g b : Nat} {D0 : DataW Unit} {vs : List S43} {w w' : World} {s : Ln} (hl : LS base g b 64 s w') (hg : Good4 s) (hb : Below base w w') (hn : ∀ s0, ¬ Comes D0 vs s0) : PlayPost base g b D0 vs w (.returned (.bool false)) w' :=
  ⟨false, s, rfl, hl, hg, hb, fun s0 c => absurd c (hn s0)⟩
theorem vown_lt {base g b n k : Nat} {s : Ln} {W : World} (h : LS base g b n s W) (hk : vown g W = some k) : k < W.heap.size := by
  obtain ⟨h1, h2, ⟨v, h3, h4⟩, h5⟩ := h
  rw [vown_of h3] at hk
  obtain ⟨cells, hc⟩ := Kd.R_typed h4 k hk
  exact blk_lt hc
theorem below_grown {W W' : World} (h : W.grownBy W' none) : Below W.heap.size W W' := ⟨h.os, h.tape, h.output, h.size, fun k hk => h.block k hk (by simp)⟩
theorem Beside.new {base g b n : Nat} {s : Ln} {W W' : World} (h : LS base g b n s W) (hb : Below W.heap.size W W') (hs : W.heap.size < W'.heap.size) : Beside g b W.heap.size W' := by
  refine ⟨by have := h.lt; omega, by have := h.ltb; omega, ?_, hs⟩
  rw [vown_same (hb.block g h.lt)]
  intro e
  have := vown_lt h e.symm
  omega
theorem publish_len {s : Ln} {name : ByteArray} {a2 a3 a4 a5 : Int} (h : (publishF s name a2 a3 a4 a5).2.1 = 0) : (publishF s name a2 a3 a4 a5).2.2.V.length = s.V.length + 1 := by
  revert h
  unfold publishF
  split
  · exact fun h => absurd h (by simp)
  split
  · exact fun h => absurd h (by simp)
  split
  · exact fun h => absurd h (by simp)
  split
  · exact fun h => absurd h (by simp)
  intro _
  simp
theorem publish_err {s : Ln} {name : ByteArray} {a2 a3 a4 a5 : Int} : (publishF s name a2 a3 a4 a5).2.1 = 0 ∨ (publishF s name a2 a3 a4 a5).2.1 = 6 ∨ (publishF s name a2 a3 a4 a5).2.1 = 1 ∨ (publishF s name a2 a3 a4 a5).2.1 = 16 ∨ (publishF s name a2 a3 a4 a5).2.1 = 4 := by
  unfold publishF
  split
  · simp
  split
  · simp
  split
  · simp
  split
  · simp
  · simp
/-- wpAnyH_take with the operation's slot by name. -/
theorem take_slot {P : Program} {md : Region.Mode} {ops : Array Oper} {Q : Exit → Act → World → Prop} {S : World → Prop} (i : Nat) (d : Option Tmp) (v : Value) {oi : Oper} {fuel : Nat} {listed : Array Bool} {a : Act} {w : World} (hi : ops[i]? = some oi) (hd : oi.dst = d)
    (hs : Region.noSelect ops = true) (hf : Region.free md ops listed i = true) (hr : (Region.ready md ops listed).contains i = true)
    (hQ : ∀ c a w, Q (.panic c) (a.put d v) w → Q (.panic c) a w) (hy : YieldsIf P ops S oi v a) (hS : S w)
    (h : wpAnyH P md ops Q S fuel (listed.setIfInBounds i true) (a.put d v) w) : wpAnyH P md ops Q S (fuel + 1) listed a w := by
  subst hd
  exact wpAnyH_take hi hs hf hr hQ hy hS h
theorem drew_below (W : World) : Below W.heap.size W W.drew := below_drew1 (Below.refl _ _)
set_option maxHeartbeats 16000000 in
set_option maxRecDepth 100000 in
theorem play_calls (base g b bb nb base2 : Nat) (D0 : DataW Unit) (A : Option Addr) (c : Nat) (vs : List S43) (w : World) (hP : PF base g b bb nb base2 D0 A c vs w Ln0 w) (hvl : vs.length ≤ 1000000)
    (hrg : ∀ i : Int, 0 ≤ i → i < vs.length → ((rd_T43 vs i).f5 ≤ 9223372036854775807 ∧ 0 ≤ (rd_T43 vs i).f6 ∧ (rd_T43 vs i).f6 < 18446744073709551616) ∧ (rd_T43 vs i).f2.size ≤ maxLen) :
    Calls Try.prog 77 #[.pointer (some ⟨g, 0, none⟩), .map (some bb), .slice A vs.length c] w (PlayPost base g b D0 vs w) := by
  have HP := Aside0.mk hP
  have HRG := Aside0.mk hrg
  have hu43 := Try.underlying43
  have hu80 := Try.underlying80
  clear hP hrg
  go_enter Try.func77, Try.ntmps77
  go_wp2_with fail
  go_loopw [7] (fun v7 wr => ∃ (m : Nat) (s : Ln) (d : Int), v7 = .int .i64 d ∧ Aside0 (d = (m : Int) - 1) ∧ Aside0 ((m ≤ vs.length ∧ Stage D0 vs m (fun _ => false) s) ∨ (m = vs.length + 1 ∧ Stage D0 vs vs.length (fun _ => true) s)) ∧ Aside0 (PF base g b bb nb base2 D0 A c vs w s wr)) (fun v _ => (vs.length - intOf v).toNat)
  case atStart => exact ⟨0, Ln0, -1, rfl, ⟨rfl⟩, ⟨.inl ⟨Nat.zero_le _, stage0⟩⟩, HP⟩
  case round =>
    obtain ⟨m, s, d, rfl, HD, HS, HF⟩ := hrel
    obtain ⟨y, rfl⟩ : ∃ y : World, y = wr := ⟨_, rfl⟩
    have hd := HD.out
    rcases HS.out with ⟨hm, hst⟩ | ⟨hm, hst⟩
    · have HST := Aside0.mk hst
      have HM := Aside0.mk hm
      have hdl : d < (vs.length : Int) := by omega
      have hd0 : -1 ≤ d := by omega
      clear hst HS hd hm
      go_wp2_with (first
        | (at_range; refine wpList_range_own _ rfl _ 116 rfl 9 3 (string_keyed Try.underlying9) Try.underlying116 intR bb nb D0 rfl HF.out.dm ?_; intro w0 hrg0 hg0 hs0; have HRA := Aside0.mk hrg0; have HGR := Aside0.mk hg0; have HSZ := Aside0.mk hs0; clear hrg0 hg0 hs0)
        | fail)
      go_frame
      have hb0 := below_grown HGR.out
      have HF0 := Aside0.mk (HF.out.below hb0)
      have HB0 := Aside0.mk (Beside.new HF.out.ls hb0 (by have := HSZ.out; omega))
      clear hb0 HGR HSZ
      go_loopw [8] (fun _ wr => ∃ (left : Lit → Bool) (cnt : Nat) (s' : Ln), Aside0 (wr.ranges Try.prog 9 intR bb y.heap.size nb D0 left cnt) ∧ Aside0 (Beside g b y.heap.size wr) ∧ Aside0 (PF base g b bb nb base2 D0 A c vs w s' wr) ∧ Aside0 (Stage D0 vs m (fun x => !left (keyB x)) s') ∧ Aside0 (∀ x, left (keyB x) = true → hasB D0 x = true)) (fun _ wr => wr.rangeLeft bb y.heap.size)
      case atStart =>
        refine ⟨_, _, s, HRA, HB0, HF0, ⟨HST.out.congr (fun x hx => ?_)⟩, ⟨fun x hx => hx⟩⟩
        have hx' : Maps.has D0 (keyB x) = true := hx
        rw [hx']
        rfl
      case round =>
        obtain ⟨left, cnt, s1, HRb, HBb, HFb, HSb, HLb⟩ := hrel
        obtain ⟨y1, rfl⟩ : ∃ y1 : World, y1 = wr := ⟨_, rfl⟩
        have hyr : base ≤ y.heap.size := Nat.le_trans HF.out.bw HF.out.bl.size
        go_wp2_with (first
          | (at_next; refine next_base _ rfl _ rfl bb y.heap.size nb D0 left cnt rfl HRb.out ?_ ?_)
          | fail)
        · intro hl0
          have HST1 := Aside0.mk (HSb.out.all (fun x _ => by rw [hl0]; rfl))
          clear hl0
          by_cases hlt : m < vs.length
          · have hdm : d + 1 = (m : Int) := by have := HD.out; omega
            have HDM := Aside0.mk hdm
            have hdl2 : d + 1 < (vs.length : Int) := by omega
            have hd1 : 0 ≤ d + 1 := by omega
            obtain ⟨ad, e9, y0, y1_, y2, y3, y4, y5, y6, y7⟩ := at_T43 (Kd.R_reads' HFb.out.row).2.2 (d + 1) (by omega) (by omega)
            obtain rfl := e9
            have hrq := HRG.out (d + 1) (by omega) (by omega)
            obtain ⟨q, hq⟩ : ∃ q, rd_T43 vs (d + 1) = q := ⟨_, rfl⟩
            have hqm : rd_T43 vs (m : Int) = q := by rw [← hdm]; exact hq
            have HQM := Aside0.mk hqm
            rw [hq] at y0 y1_ y2 y3 y4 y5 y6 y7 hrq
            have hcap := (Kd.R_reads' HFb.out.row).2.1
            have HLTm := Aside0.mk hlt
            clear hdm hq hqm hlt
            go_upto_region 11 with fail
            go_cut [11] (fun s11 wx => ∃ k : Nat, s11 = .pointer (some ⟨k, 0, none⟩) ∧ Aside0 (wx.heap[k]? = some (.cells (box43 q) 43 (0, 0)) ∧ k = y1.heap.size ∧ y1.heap.size < wx.heap.size ∧ Below y1.heap.size y1 wx))
            case first =>
              go_wp2
              go_meet
              exact ⟨_, rfl, ⟨blk_new _ _, rfl, by simp, below_alloc (Below.refl _ _) _⟩⟩
            case rest =>
              obtain ⟨k, rfl, HX⟩ := hcut
              obtain ⟨x1, rfl⟩ : ∃ x1 : World, x1 = wc := ⟨_, rfl⟩
              have HFx := Aside0.mk (HFb.out.below HX.out.2.2.2)
              have HKx := Aside0.mk (show Beside g b k x1 from by have := Beside.new HFb.out.ls HX.out.2.2.2 HX.out.2.2.1; rw [← HX.out.2.1] at this; exact this)
              have HX1 := Aside0.mk HX.out.1
              clear y0 y1_ y2 y3 y4 y5 y6 y7 HX
              obtain ⟨c1_, c2_, c3_, c4_, c5_, c6_, c7_⟩ := at_B43 HX1.out
              obtain ⟨⟨pi, ec, s2⟩, hpu⟩ : ∃ z, publishF s1 q.f2 q.f3 q.f4 q.f5 q.f6 = z := ⟨_, rfl⟩
              have HPU := Aside0.mk hpu
              have HG2 := Aside0.mk (show Good4 s2 from by have := HST1.out.good.publish q.f2 q.f3 q.f4 q.f5 q.f6 hrq.1.1 hrq.1.2; rwa [hpu] at this)
              have HRQ := Aside0.mk hrq
              have HMo := Aside0.mk HST1.out.good.most
              have HFi : Aside0 (hasB s1.D q.f2 = true → firstF (lkp s1.D q.f2) < s1.V.length) := ⟨fun h => (HST1.out.good.toGood.first h).2⟩
              have HN64 : Aside0 (64 < maxLen) := ⟨by unfold maxLen; omega⟩
              have hVl := HST1.out.len
              clear hrq
              go_upto_region 13 with (first
                | (go_at_call 13; (with_reducible refine (publish_calls base g b 64 s1 q.f2 q.f3 q.f4 q.f5 q.f6 x1 HFx.out.ls (Nat.le_trans HFx.out.bw HFx.out.bl.size) HRQ.out.2 HN64.out HMo.out HFi.out).mono ?_); rintro e w4 ⟨rfl, h1, h2, h3⟩; rw [HPU.out] at h1; rw [HPU.out]; have HL4 := Aside0.mk (LS.tight h1 HG2.out.toGood); have HK4 := Aside0.mk h3; have HB4 := Aside0.mk h2; clear h1 h2 h3)
                | fail)
              have HF4 := Aside0.mk (HFx.out.keep HL4.out HB4.out HK4.out)
              have HX4 := Aside0.mk (show w4.heap[k]? = some (.cells (box43 q) 43 (0, 0)) from (HKx.out.keep HK4.out).1.trans HX1.out)
              clear c1_ c2_ c3_ c4_ c5_ c6_ c7_
              have HF5 := Aside0.mk (HF4.out.below (drew_below w4))
              by_cases hec : ec = 0
              · subst hec
                have hl2 : s2.V.length = m + 1 := by have := publish_len (s := s1) (name := q.f2) (a2 := q.f3) (a3 := q.f4) (a4 := q.f5) (a5 := q.f6) (by rw [hpu]); rw [hpu] at this; simp only at this; omega
                obtain ⟨A2, cc2, _, u1, _, ucap, uC, _, _⟩ := HL4.out.cells
                obtain ⟨ad2, e9, _, v1, _, _, _, _, _, _⟩ := at_T43 uC (d + 1) (by omega) (by have := HDM.out; omega)
                obtain rfl := e9
                obtain ⟨b1, _, _, _, _, _, _⟩ := at_B43 HX4.out
                obtain ⟨pq, hpq⟩ : ∃ pq, (rd_T43 s2.V (d + 1)).f1 = pq := ⟨_, rfl⟩
                rw [hpq] at v1
                have HPQ := Aside0.mk hpq
                have hdl3 : d + 1 < (s2.V.length : Int) := by have := HDM.out; omega
                clear hpq uC hpu hl2 hVl
                by_cases hpar : pq = q.f1
                · subst hpar
                  go_region_held3 (fun w' => w'.cell? ⟨g, 1, none⟩ = some (.slice (some ad2) s2.V.length cc2) ∧ w'.cell? ⟨(ad2.add ((d + 1).toNat * 8)).block, (ad2.add ((d + 1).toNat * 8)).off + 1, none⟩ = some (.int .i64 q.f1) ∧ w'.cell? ⟨k, 1, none⟩ = some (.int .i64 q.f1))
                    (first | exact ⟨u1, v1, b1⟩ | go_keep) (first | fail)
                  go_wp2_with fail
                  go_roundw
                  case rel =>
                    refine ⟨m + 1, s2, d + 1, rfl, ⟨by have := HDM.out; omega⟩, ⟨.inl ⟨HLTm.out, ?_⟩⟩, HF5⟩
                    have h1 := HST1.out.next (by rw [HQM.out]; exact HRQ.out.1.1) (by rw [HQM.out]; exact HRQ.out.1.2) (by rw [HQM.out, HPU.out]) (by rw [HQM.out, HPU.out]; simp only; rw [← HDM.out]; exact HPQ.out)
                    rw [HQM.out, HPU.out] at h1
                    exact h1
                  case measure => simp [intOf]; omega
                · have hpar2 : (pq != q.f1) = true := by rw [bne_iff_ne]; exact hpar
                  have HPA := Aside0.mk hpar
                  clear hpar
                  go_region_held3 (fun w' => w'.cell? ⟨g, 1, none⟩ = some (.slice (some ad2) s2.V.length cc2) ∧ w'.cell? ⟨(ad2.add ((d + 1).toNat * 8)).block, (ad2.add ((d + 1).toNat * 8)).off + 1, none⟩ = some (.int .i64 pq) ∧ w'.cell? ⟨k, 1, none⟩ = some (.int .i64 q.f1))
                    (first | exact ⟨u1, v1, b1⟩ | go_keep) (first | fail)
                  go_wp2_with fail
                  go_ret
                  refine PlayPost.no HF5.out.ls HG2.out HF5.out.bl (fun s0 cm => HPA.out ?_)
                  have h1 := (cm.publish_ok HST1.out HLTm.out).2
                  rw [HQM.out, HPU.out] at h1
                  simp only at h1
                  rw [← HDM.out, HPQ.out] at h1
                  exact h1
              · have hce : ec = 6 ∨ ec = 1 ∨ ec = 16 ∨ ec = 4 := by
                  have := publish_err (s := s1) (name := q.f2) (a2 := q.f3) (a3 := q.f4) (a4 := q.f5) (a5 := q.f6)
                  rw [hpu] at this
                  exact this.resolve_left hec
                have HNC : Aside0 (∀ s0, ¬ Comes D0 vs s0) := ⟨fun s0 cm => hec (by
                  have h1 := (cm.publish_ok HST1.out HLTm.out).1
                  rw [HQM.out, HPU.out] at h1
                  exact h1)⟩
                clear hec hpu HPU
                rcases hce with rfl | rfl | rfl | rfl
                · refine wp_region_held_drew (S := fun _ => True) (by kernel_rfl) trivial (fun hHeld => ?_)
                  refine take_slot 0 (some 64) (.int .i64 6) rfl rfl (by kernel_rfl) (by kernel_rfl) (by kernel_rfl) (fun _ _ _ h => h) (Or.inl ⟨by kernel_rfl, ?_⟩) trivial ?_
                  · (intro w hSw; first | (go_simp; done) | (go_simp; with_reducible rfl))
                  try simp only [Act.put, List.setIfInBounds_toArray, List.set_cons_zero, List.set_cons_succ]
                  refine take_slot 1 (some 65) (.bool true) rfl rfl (by kernel_rfl) (by kernel_rfl) (by kernel_rfl) (fun _ _ _ h => h) (Or.inl ⟨by kernel_rfl, ?_⟩) trivial ?_
                  · (intro w hSw; first | (go_simp; done) | (go_simp; with_reducible rfl))
                  try simp only [Act.put, List.setIfInBounds_toArray, List.set_cons_zero, List.set_cons_succ]
                  refine take_slot 2 (some 66) (.bool true) rfl rfl (by kernel_rfl) (by kernel_rfl) (by kernel_rfl) (fun _ _ _ h => h) (Or.inl ⟨by kernel_rfl, ?_⟩) trivial ?_
                  · (intro w hSw; first | (go_simp; done) | (go_simp; with_reducible rfl))
                  try simp only [Act.put, List.setIfInBounds_toArray, List.set_cons_zero, List.set_cons_succ]
                  refine take_slot 3 (some 67) (undef) rfl rfl (by kernel_rfl) (by kernel_rfl) (by kernel_rfl) (fun _ _ _ h => h) (Or.inr ⟨by kernel_rfl, rfl⟩) trivial ?_
                  try simp only [Act.put, List.setIfInBounds_toArray, List.set_cons_zero, List.set_cons_succ]
                  refine take_slot 4 (some 68) (undef) rfl rfl (by kernel_rfl) (by kernel_rfl) (by kernel_rfl) (fun _ _ _ h => h) (Or.inr ⟨by kernel_rfl, rfl⟩) trivial ?_
                  try simp only [Act.put, List.setIfInBounds_toArray, List.set_cons_zero, List.set_cons_succ]
                  refine take_slot 5 (some 69) (undef) rfl rfl (by kernel_rfl) (by kernel_rfl) (by kernel_rfl) (fun _ _ _ h => h) (Or.inr ⟨by kernel_rfl, rfl⟩) trivial ?_
                  try simp only [Act.put, List.setIfInBounds_toArray, List.set_cons_zero, List.set_cons_succ]
                  refine take_slot 6 (some 70) (undef) rfl rfl (by kernel_rfl) (by kernel_rfl) (by kernel_rfl) (fun _ _ _ h => h) (Or.inr ⟨by kernel_rfl, rfl⟩) trivial ?_
                  try simp only [Act.put, List.setIfInBounds_toArray, List.set_cons_zero, List.set_cons_succ]
                  refine take_slot 7 (some 71) (undef) rfl rfl (by kernel_rfl) (by kernel_rfl) (by kernel_rfl) (fun _ _ _ h => h) (Or.inr ⟨by kernel_rfl, rfl⟩) trivial ?_
                  try simp only [Act.put, List.setIfInBounds_toArray, List.set_cons_zero, List.set_cons_succ]
                  refine take_slot 8 (some 72) (undef) rfl rfl (by kernel_rfl) (by kernel_rfl) (by kernel_rfl) (fun _ _ _ h => h) (Or.inr ⟨by kernel_rfl, rfl⟩) trivial ?_
                  try simp only [Act.put, List.setIfInBounds_toArray, List.set_cons_zero, List.set_cons_succ]
                  refine take_slot 9 (some 73) (undef) rfl rfl (by kernel_rfl) (by kernel_rfl) (by kernel_rfl) (fun _ _ _ h => h) (Or.inr ⟨by kernel_rfl, rfl⟩) trivial ?_
                  try simp only [Act.put, List.setIfInBounds_toArray, List.set_cons_zero, List.set_cons_succ]
                  refine take_slot 10 (some 74) (undef) rfl rfl (by kernel_rfl) (by kernel_rfl) (by kernel_rfl) (fun _ _ _ h => h) (Or.inr ⟨by kernel_rfl, rfl⟩) trivial ?_
                  try simp only [Act.put, List.setIfInBounds_toArray, List.set_cons_zero, List.set_cons_succ]
                  refine take_slot 11 (some 75) (undef) rfl rfl (by kernel_rfl) (by kernel_rfl) (by kernel_rfl) (fun _ _ _ h => h) (Or.inr ⟨by kernel_rfl, rfl⟩) trivial ?_
                  try simp only [Act.put, List.setIfInBounds_toArray, List.set_cons_zero, List.set_cons_succ]
                  refine take_slot 12 (some 76) (undef) rfl rfl (by kernel_rfl) (by kernel_rfl) (by kernel_rfl) (fun _ _ _ h => h) (Or.inr ⟨by kernel_rfl, rfl⟩) trivial ?_
                  try simp only [Act.put, List.setIfInBounds_toArray, List.set_cons_zero, List.set_cons_succ]
                  refine take_slot 13 (some 77) (undef) rfl rfl (by kernel_rfl) (by kernel_rfl) (by kernel_rfl) (fun _ _ _ h => h) (Or.inr ⟨by kernel_rfl, rfl⟩) trivial ?_
                  try simp only [Act.put, List.setIfInBounds_toArray, List.set_cons_zero, List.set_cons_succ]
                  refine take_slot 14 (some 78) (.bool true) rfl rfl (by kernel_rfl) (by kernel_rfl) (by kernel_rfl) (fun _ _ _ h => h) (Or.inl ⟨by kernel_rfl, ?_⟩) trivial ?_
                  · (intro w hSw; first | (go_simp; done) | (go_simp; with_reducible rfl))
                  try simp only [Act.put, List.setIfInBounds_toArray, List.set_cons_zero, List.set_cons_succ]
                  refine wpAnyH_done (by kernel_rfl) ?_ _
                  go_wp2_with fail
                  go_ret
                  exact PlayPost.no HF5.out.ls HG2.out HF5.out.bl HNC.out
                · refine wp_region_held_drew (S := fun _ => True) (by kernel_rfl) trivial (fun hHeld => ?_)
                  refine take_slot 0 (some 64) (.int .i64 1) rfl rfl (by kernel_rfl) (by kernel_rfl) (by kernel_rfl) (fun _ _ _ h => h) (Or.inl ⟨by kernel_rfl, ?_⟩) trivial ?_
                  · (intro w hSw; first | (go_simp; done) | (go_simp; with_reducible rfl))
                  try simp only [Act.put, List.setIfInBounds_toArray, List.set_cons_zero, List.set_cons_succ]
                  refine take_slot 1 (some 65) (.bool true) rfl rfl (by kernel_rfl) (by kernel_rfl) (by kernel_rfl) (fun _ _ _ h => h) (Or.inl ⟨by kernel_rfl, ?_⟩) trivial ?_
                  · (intro w hSw; first | (go_simp; done) | (go_simp; with_reducible rfl))
                  try simp only [Act.put, List.setIfInBounds_toArray, List.set_cons_zero, List.set_cons_succ]
                  refine take_slot 2 (some 66) (.bool true) rfl rfl (by kernel_rfl) (by kernel_rfl) (by kernel_rfl) (fun _ _ _ h => h) (Or.inl ⟨by kernel_rfl, ?_⟩) trivial ?_
                  · (intro w hSw; first | (go_simp; done) | (go_simp; with_reducible rfl))
                  try simp only [Act.put, List.setIfInBounds_toArray, List.set_cons_zero, List.set_cons_succ]
                  refine take_slot 3 (some 67) (undef) rfl rfl (by kernel_rfl) (by kernel_rfl) (by kernel_rfl) (fun _ _ _ h => h) (Or.inr ⟨by kernel_rfl, rfl⟩) trivial ?_
                  try simp only [Act.put, List.setIfInBounds_toArray, List.set_cons_zero, List.set_cons_succ]
                  refine take_slot 4 (some 68) (undef) rfl rfl (by kernel_rfl) (by kernel_rfl) (by kernel_rfl) (fun _ _ _ h => h) (Or.inr ⟨by kernel_rfl, rfl⟩) trivial ?_
                  try simp only [Act.put, List.setIfInBounds_toArray, List.set_cons_zero, List.set_cons_succ]
                  refine take_slot 5 (some 69) (undef) rfl rfl (by kernel_rfl) (by kernel_rfl) (by kernel_rfl) (fun _ _ _ h => h) (Or.inr ⟨by kernel_rfl, rfl⟩) trivial ?_
                  try simp only [Act.put, List.setIfInBounds_toArray, List.set_cons_zero, List.set_cons_succ]
                  refine take_slot 6 (some 70) (undef) rfl rfl (by kernel_rfl) (by kernel_rfl) (by kernel_rfl) (fun _ _ _ h => h) (Or.inr ⟨by kernel_rfl, rfl⟩) trivial ?_
                  try simp only [Act.put, List.setIfInBounds_toArray, List.set_cons_zero, List.set_cons_succ]
                  refine take_slot 7 (some 71) (undef) rfl rfl (by kernel_rfl) (by kernel_rfl) (by kernel_rfl) (fun _ _ _ h => h) (Or.inr ⟨by kernel_rfl, rfl⟩) trivial ?_
                  try simp only [Act.put, List.setIfInBounds_toArray, List.set_cons_zero, List.set_cons_succ]
                  refine take_slot 8 (some 72) (undef) rfl rfl (by kernel_rfl) (by kernel_rfl) (by kernel_rfl) (fun _ _ _ h => h) (Or.inr ⟨by kernel_rfl, rfl⟩) trivial ?_
                  try simp only [Act.put, List.setIfInBounds_toArray, List.set_cons_zero, List.set_cons_succ]
                  refine take_slot 9 (some 73) (undef) rfl rfl (by kernel_rfl) (by kernel_rfl) (by kernel_rfl) (fun _ _ _ h => h) (Or.inr ⟨by kernel_rfl, rfl⟩) trivial ?_
                  try simp only [Act.put, List.setIfInBounds_toArray, List.set_cons_zero, List.set_cons_succ]
                  refine take_slot 10 (some 74) (undef) rfl rfl (by kernel_rfl) (by kernel_rfl) (by kernel_rfl) (fun _ _ _ h => h) (Or.inr ⟨by kernel_rfl, rfl⟩) trivial ?_
                  try simp only [Act.put, List.setIfInBounds_toArray, List.set_cons_zero, List.set_cons_succ]
                  refine take_slot 11 (some 75) (undef) rfl rfl (by kernel_rfl) (by kernel_rfl) (by kernel_rfl) (fun _ _ _ h => h) (Or.inr ⟨by kernel_rfl, rfl⟩) trivial ?_
                  try simp only [Act.put, List.setIfInBounds_toArray, List.set_cons_zero, List.set_cons_succ]
                  refine take_slot 12 (some 76) (undef) rfl rfl (by kernel_rfl) (by kernel_rfl) (by kernel_rfl) (fun _ _ _ h => h) (Or.inr ⟨by kernel_rfl, rfl⟩) trivial ?_
                  try simp only [Act.put, List.setIfInBounds_toArray, List.set_cons_zero, List.set_cons_succ]
                  refine take_slot 13 (some 77) (undef) rfl rfl (by kernel_rfl) (by kernel_rfl) (by kernel_rfl) (fun _ _ _ h => h) (Or.inr ⟨by kernel_rfl, rfl⟩) trivial ?_
                  try simp only [Act.put, List.setIfInBounds_toArray, List.set_cons_zero, List.set_cons_succ]
                  refine take_slot 14 (some 78) (.bool true) rfl rfl (by kernel_rfl) (by kernel_rfl) (by kernel_rfl) (fun _ _ _ h => h) (Or.inl ⟨by kernel_rfl, ?_⟩) trivial ?_
                  · (intro w hSw; first | (go_simp; done) | (go_simp; with_reducible rfl))
                  try simp only [Act.put, List.setIfInBounds_toArray, List.set_cons_zero, List.set_cons_succ]
                  refine wpAnyH_done (by kernel_rfl) ?_ _
                  go_wp2_with fail
                  go_ret
                  exact PlayPost.no HF5.out.ls HG2.out HF5.out.bl HNC.out
                · refine wp_region_held_drew (S := fun _ => True) (by kernel_rfl) trivial (fun hHeld => ?_)
                  refine take_slot 0 (some 64) (.int .i64 16) rfl rfl (by kernel_rfl) (by kernel_rfl) (by kernel_rfl) (fun _ _ _ h => h) (Or.inl ⟨by kernel_rfl, ?_⟩) trivial ?_
                  · (intro w hSw; first | (go_simp; done) | (go_simp; with_reducible rfl))
                  try simp only [Act.put, List.setIfInBounds_toArray, List.set_cons_zero, List.set_cons_succ]
                  refine take_slot 1 (some 65) (.bool true) rfl rfl (by kernel_rfl) (by kernel_rfl) (by kernel_rfl) (fun _ _ _ h => h) (Or.inl ⟨by kernel_rfl, ?_⟩) trivial ?_
                  · (intro w hSw; first | (go_simp; done) | (go_simp; with_reducible rfl))
                  try simp only [Act.put, List.setIfInBounds_toArray, List.set_cons_zero, List.set_cons_succ]
                  refine take_slot 2 (some 66) (.bool true) rfl rfl (by kernel_rfl) (by kernel_rfl) (by kernel_rfl) (fun _ _ _ h => h) (Or.inl ⟨by kernel_rfl, ?_⟩) trivial ?_
                  · (intro w hSw; first | (go_simp; done) | (go_simp; with_reducible rfl))
                  try simp only [Act.put, List.setIfInBounds_toArray, List.set_cons_zero, List.set_cons_succ]
                  refine take_slot 3 (some 67) (undef) rfl rfl (by kernel_rfl) (by kernel_rfl) (by kernel_rfl) (fun _ _ _ h => h) (Or.inr ⟨by kernel_rfl, rfl⟩) trivial ?_
                  try simp only [Act.put, List.setIfInBounds_toArray, List.set_cons_zero, List.set_cons_succ]
                  refine take_slot 4 (some 68) (undef) rfl rfl (by kernel_rfl) (by kernel_rfl) (by kernel_rfl) (fun _ _ _ h => h) (Or.inr ⟨by kernel_rfl, rfl⟩) trivial ?_
                  try simp only [Act.put, List.setIfInBounds_toArray, List.set_cons_zero, List.set_cons_succ]
                  refine take_slot 5 (some 69) (undef) rfl rfl (by kernel_rfl) (by kernel_rfl) (by kernel_rfl) (fun _ _ _ h => h) (Or.inr ⟨by kernel_rfl, rfl⟩) trivial ?_
                  try simp only [Act.put, List.setIfInBounds_toArray, List.set_cons_zero, List.set_cons_succ]
                  refine take_slot 6 (some 70) (undef) rfl rfl (by kernel_rfl) (by kernel_rfl) (by kernel_rfl) (fun _ _ _ h => h) (Or.inr ⟨by kernel_rfl, rfl⟩) trivial ?_
                  try simp only [Act.put, List.setIfInBounds_toArray, List.set_cons_zero, List.set_cons_succ]
                  refine take_slot 7 (some 71) (undef) rfl rfl (by kernel_rfl) (by kernel_rfl) (by kernel_rfl) (fun _ _ _ h => h) (Or.inr ⟨by kernel_rfl, rfl⟩) trivial ?_
                  try simp only [Act.put, List.setIfInBounds_toArray, List.set_cons_zero, List.set_cons_succ]
                  refine take_slot 8 (some 72) (undef) rfl rfl (by kernel_rfl) (by kernel_rfl) (by kernel_rfl) (fun _ _ _ h => h) (Or.inr ⟨by kernel_rfl, rfl⟩) trivial ?_
                  try simp only [Act.put, List.setIfInBounds_toArray, List.set_cons_zero, List.set_cons_succ]
                  refine take_slot 9 (some 73) (undef) rfl rfl (by kernel_rfl) (by kernel_rfl) (by kernel_rfl) (fun _ _ _ h => h) (Or.inr ⟨by kernel_rfl, rfl⟩) trivial ?_
                  try simp only [Act.put, List.setIfInBounds_toArray, List.set_cons_zero, List.set_cons_succ]
                  refine take_slot 10 (some 74) (undef) rfl rfl (by kernel_rfl) (by kernel_rfl) (by kernel_rfl) (fun _ _ _ h => h) (Or.inr ⟨by kernel_rfl, rfl⟩) trivial ?_
                  try simp only [Act.put, List.setIfInBounds_toArray, List.set_cons_zero, List.set_cons_succ]
                  refine take_slot 11 (some 75) (undef) rfl rfl (by kernel_rfl) (by kernel_rfl) (by kernel_rfl) (fun _ _ _ h => h) (Or.inr ⟨by kernel_rfl, rfl⟩) trivial ?_
                  try simp only [Act.put, List.setIfInBounds_toArray, List.set_cons_zero, List.set_cons_succ]
                  refine take_slot 12 (some 76) (undef) rfl rfl (by kernel_rfl) (by kernel_rfl) (by kernel_rfl) (fun _ _ _ h => h) (Or.inr ⟨by kernel_rfl, rfl⟩) trivial ?_
                  try simp only [Act.put, List.setIfInBounds_toArray, List.set_cons_zero, List.set_cons_succ]
                  refine take_slot 13 (some 77) (undef) rfl rfl (by kernel_rfl) (by kernel_rfl) (by kernel_rfl) (fun _ _ _ h => h) (Or.inr ⟨by kernel_rfl, rfl⟩) trivial ?_
                  try simp only [Act.put, List.setIfInBounds_toArray, List.set_cons_zero, List.set_cons_succ]
                  refine take_slot 14 (some 78) (.bool true) rfl rfl (by kernel_rfl) (by kernel_rfl) (by kernel_rfl) (fun _ _ _ h => h) (Or.inl ⟨by kernel_rfl, ?_⟩) trivial ?_
                  · (intro w hSw; first | (go_simp; done) | (go_simp; with_reducible rfl))
                  try simp only [Act.put, List.setIfInBounds_toArray, List.set_cons_zero, List.set_cons_succ]
                  refine wpAnyH_done (by kernel_rfl) ?_ _
                  go_wp2_with fail
                  go_ret
                  exact PlayPost.no HF5.out.ls HG2.out HF5.out.bl HNC.out
                · refine wp_region_held_drew (S := fun _ => True) (by kernel_rfl) trivial (fun hHeld => ?_)
                  refine take_slot 0 (some 64) (.int .i64 4) rfl rfl (by kernel_rfl) (by kernel_rfl) (by kernel_rfl) (fun _ _ _ h => h) (Or.inl ⟨by kernel_rfl, ?_⟩) trivial ?_
                  · (intro w hSw; first | (go_simp; done) | (go_simp; with_reducible rfl))
                  try simp only [Act.put, List.setIfInBounds_toArray, List.set_cons_zero, List.set_cons_succ]
                  refine take_slot 1 (some 65) (.bool true) rfl rfl (by kernel_rfl) (by kernel_rfl) (by kernel_rfl) (fun _ _ _ h => h) (Or.inl ⟨by kernel_rfl, ?_⟩) trivial ?_
                  · (intro w hSw; first | (go_simp; done) | (go_simp; with_reducible rfl))
                  try simp only [Act.put, List.setIfInBounds_toArray, List.set_cons_zero, List.set_cons_succ]
                  refine take_slot 2 (some 66) (.bool true) rfl rfl (by kernel_rfl) (by kernel_rfl) (by kernel_rfl) (fun _ _ _ h => h) (Or.inl ⟨by kernel_rfl, ?_⟩) trivial ?_
                  · (intro w hSw; first | (go_simp; done) | (go_simp; with_reducible rfl))
                  try simp only [Act.put, List.setIfInBounds_toArray, List.set_cons_zero, List.set_cons_succ]
                  refine take_slot 3 (some 67) (undef) rfl rfl (by kernel_rfl) (by kernel_rfl) (by kernel_rfl) (fun _ _ _ h => h) (Or.inr ⟨by kernel_rfl, rfl⟩) trivial ?_
                  try simp only [Act.put, List.setIfInBounds_toArray, List.set_cons_zero, List.set_cons_succ]
                  refine take_slot 4 (some 68) (undef) rfl rfl (by kernel_rfl) (by kernel_rfl) (by kernel_rfl) (fun _ _ _ h => h) (Or.inr ⟨by kernel_rfl, rfl⟩) trivial ?_
                  try simp only [Act.put, List.setIfInBounds_toArray, List.set_cons_zero, List.set_cons_succ]
                  refine take_slot 5 (some 69) (undef) rfl rfl (by kernel_rfl) (by kernel_rfl) (by kernel_rfl) (fun _ _ _ h => h) (Or.inr ⟨by kernel_rfl, rfl⟩) trivial ?_
                  try simp only [Act.put, List.setIfInBounds_toArray, List.set_cons_zero, List.set_cons_succ]
                  refine take_slot 6 (some 70) (undef) rfl rfl (by kernel_rfl) (by kernel_rfl) (by kernel_rfl) (fun _ _ _ h => h) (Or.inr ⟨by kernel_rfl, rfl⟩) trivial ?_
                  try simp only [Act.put, List.setIfInBounds_toArray, List.set_cons_zero, List.set_cons_succ]
                  refine take_slot 7 (some 71) (undef) rfl rfl (by kernel_rfl) (by kernel_rfl) (by kernel_rfl) (fun _ _ _ h => h) (Or.inr ⟨by kernel_rfl, rfl⟩) trivial ?_
                  try simp only [Act.put, List.setIfInBounds_toArray, List.set_cons_zero, List.set_cons_succ]
                  refine take_slot 8 (some 72) (undef) rfl rfl (by kernel_rfl) (by kernel_rfl) (by kernel_rfl) (fun _ _ _ h => h) (Or.inr ⟨by kernel_rfl, rfl⟩) trivial ?_
                  try simp only [Act.put, List.setIfInBounds_toArray, List.set_cons_zero, List.set_cons_succ]
                  refine take_slot 9 (some 73) (undef) rfl rfl (by kernel_rfl) (by kernel_rfl) (by kernel_rfl) (fun _ _ _ h => h) (Or.inr ⟨by kernel_rfl, rfl⟩) trivial ?_
                  try simp only [Act.put, List.setIfInBounds_toArray, List.set_cons_zero, List.set_cons_succ]
                  refine take_slot 10 (some 74) (undef) rfl rfl (by kernel_rfl) (by kernel_rfl) (by kernel_rfl) (fun _ _ _ h => h) (Or.inr ⟨by kernel_rfl, rfl⟩) trivial ?_
                  try simp only [Act.put, List.setIfInBounds_toArray, List.set_cons_zero, List.set_cons_succ]
                  refine take_slot 11 (some 75) (undef) rfl rfl (by kernel_rfl) (by kernel_rfl) (by kernel_rfl) (fun _ _ _ h => h) (Or.inr ⟨by kernel_rfl, rfl⟩) trivial ?_
                  try simp only [Act.put, List.setIfInBounds_toArray, List.set_cons_zero, List.set_cons_succ]
                  refine take_slot 12 (some 76) (undef) rfl rfl (by kernel_rfl) (by kernel_rfl) (by kernel_rfl) (fun _ _ _ h => h) (Or.inr ⟨by kernel_rfl, rfl⟩) trivial ?_
                  try simp only [Act.put, List.setIfInBounds_toArray, List.set_cons_zero, List.set_cons_succ]
                  refine take_slot 13 (some 77) (undef) rfl rfl (by kernel_rfl) (by kernel_rfl) (by kernel_rfl) (fun _ _ _ h => h) (Or.inr ⟨by kernel_rfl, rfl⟩) trivial ?_
                  try simp only [Act.put, List.setIfInBounds_toArray, List.set_cons_zero, List.set_cons_succ]
                  refine take_slot 14 (some 78) (.bool true) rfl rfl (by kernel_rfl) (by kernel_rfl) (by kernel_rfl) (fun _ _ _ h => h) (Or.inl ⟨by kernel_rfl, ?_⟩) trivial ?_
                  · (intro w hSw; first | (go_simp; done) | (go_simp; with_reducible rfl))
                  try simp only [Act.put, List.setIfInBounds_toArray, List.set_cons_zero, List.set_cons_succ]
                  refine wpAnyH_done (by kernel_rfl) ?_ _
                  go_wp2_with fail
                  go_ret
                  exact PlayPost.no HF5.out.ls HG2.out HF5.out.bl HNC.out
          · have hme : m = vs.length := by have := HM.out; omega
            have hde : ¬ d + 1 < (vs.length : Int) := by have := HD.out; omega
            have hde2 : (vs.length : Int) ≤ d + 1 := by omega
            have HME := Aside0.mk hme
            clear hlt hme
            go_wp2_with fail
            go_roundw
            case rel => exact ⟨m + 1, s1, d + 1, rfl, ⟨by have := HD.out; omega⟩, ⟨.inr ⟨by rw [HME.out], by rw [← HME.out]; exact HST1.out⟩⟩, HFb⟩
            case measure => simp [intOf]; omega
        · intro x c2 w1 cnt1 hlx hbx hxs hrg1 hlt hg1 hs1 hen
          have HRc := Aside0.mk hrg1
          have hne := HRb.out.ne
          have HFc := Aside0.mk (HFb.out.grown HBb.out hyr hne (fun k hk => ?_) hg1)
          · have HBc := Aside0.mk (HBb.out.grown HFb.out.ls.lt (Ne.symm HBb.out.ng) hg1)
            have HLX := Aside0.mk hlx
            have HBX := Aside0.mk hbx
            have HLT := Aside0.mk hlt
            have HHX := Aside0.mk (HLb.out x hlx)
            have HLc : Aside0 (∀ z, ((fun z => left z && !z.sameKey (keyB x)) (keyB z)) = true → hasB D0 z = true) := ⟨fun z hz => by
              simp only [Bool.and_eq_true] at hz
              exact HLb.out z hz.1⟩
            have hdone : ∀ z, z ≠ x → (!(fun z => left z && !z.sameKey (keyB x)) (keyB z)) = !left (keyB z) := fun z hz => by
              simp only
              rw [same_key, decide_eq_false hz]
              simp
            have hdone2 : (!(fun z => left z && !z.sameKey (keyB x)) (keyB x)) = true := by
              simp only
              rw [same_key]
              simp
            have hdone3 : (!left (keyB x)) = false := by rw [hlx]; rfl
            have HD1 := Aside0.mk hdone
            have HD2 := Aside0.mk hdone2
            have HD3 := Aside0.mk hdone3
            have HLE := Aside0.mk HRb.out.left_eq
            clear hrg1 hlt hg1 hs1 hlx hdone hdone2 hdone3 hne
            by_cases hcd : c2 = d
            · subst hcd
              obtain ⟨⟨ec, s2⟩, hfk⟩ : ∃ q, forkF s1 x c2 = q := ⟨_, rfl⟩
              have HFK := Aside0.mk hfk
              have HG2 := Aside0.mk (show Good4 s2 from by have := HSb.out.good.fork x c2; rwa [hfk] at this)
              by_cases hec : ec = 0
              · subst hec
                clear hfk hbx
                go_wp2_with (first
                  | (go_at_call 11; (with_reducible refine (fork_calls base g b 64 s1 x c2 w1 HFc.out.ls (Nat.le_trans HFc.out.bw HFc.out.bl.size) hxs (by omega)).mono ?_); rintro e w4 ⟨rfl, h1, h2, h3⟩; rw [HFK.out] at h1; rw [HFK.out]; have HL4 := Aside0.mk (LS.tight h1 HG2.out.toGood); have HK4 := Aside0.mk h3; have HB4 := Aside0.mk h2; clear h1 h2 h3)
                  | fail)
                go_roundw
                case rel =>
                  refine ⟨_, cnt1, s2, ⟨ranges_same HRc.out (HFc.out.bs.keep HK4.out).1 (HBc.out.keep HK4.out).1⟩, ⟨(HBc.out.keep HK4.out).2⟩, ⟨HFc.out.keep HL4.out HB4.out HK4.out⟩, ⟨?_⟩, HLc⟩
                  have h1 := HSb.out.fork (x := x) (done' := fun z => !(fun z => left z && !z.sameKey (keyB x)) (keyB z)) HHX.out (by rw [HBX.out]; exact HD.out) HD1.out HD2.out (by rw [← HD.out, HFK.out])
                  rw [← HD.out, HFK.out] at h1
                  exact h1
                case measure =>
                  rw [(ranges_same HRc.out (HFc.out.bs.keep HK4.out).1 (HBc.out.keep HK4.out).1).left_eq, HLE.out]
                  exact HLT.out
              · have hec2 : (ec != 0) = true := by rw [bne_iff_ne]; exact hec
                have HEC := Aside0.mk hec
                clear hfk hbx hec
                go_wp2_with (first
                  | (go_at_call 11; (with_reducible refine (fork_calls base g b 64 s1 x c2 w1 HFc.out.ls (Nat.le_trans HFc.out.bw HFc.out.bl.size) hxs (by omega)).mono ?_); rintro e w4 ⟨rfl, h1, h2, h3⟩; rw [HFK.out] at h1; rw [HFK.out]; have HL4 := Aside0.mk (LS.tight h1 HG2.out.toGood); have HK4 := Aside0.mk h3; have HB4 := Aside0.mk h2; clear h1 h2 h3)
                  | fail)
                go_ret
                refine PlayPost.no HL4.out HG2.out (HFc.out.bl.trans HB4.out) (fun s0 cm => HEC.out ?_)
                have h1 := cm.fork_ok HSb.out HHX.out (by rw [HBX.out]; exact HD.out) HD3.out
                rw [← HD.out, HFK.out] at h1
                exact h1
            · have hcd2 : (c2 == d) = false := by rw [beq_eq_false_iff_ne]; exact hcd
              have HCD := Aside0.mk hcd
              clear hbx hcd
              go_wp2_with fail
              go_roundw
              case rel => exact ⟨_, cnt1, s1, HRc, HBc, HFc, ⟨HSb.out.skip (x := x) (by rw [HBX.out, ← HD.out]; exact HCD.out) HD1.out⟩, HLc⟩
              case measure =>
                rw [HRc.out.left_eq, HLE.out]
                exact HLT.out
          · have h1 := (HF.out.row.1 k hk).lt
            omega
    · have HST := Aside0.mk hst.shut
      have hdl : ¬ d < (vs.length : Int) := by omega
      have hdl2 : (vs.length : Int) ≤ d := by omega
      clear hst HS hd hm
      go_wp2_with fail
      go_loopw [81] (fun v81 wr => ∃ (j : Nat) (s' : Ln), v81 = .int .i64 j ∧ Aside0 (j ≤ vs.length) ∧ Aside0 (Shut D0 vs j s') ∧ Aside0 (PF base g b bb nb base2 D0 A c vs w s' wr)) (fun v _ => vs.length - (intOf v).toNat)
      case atStart => exact ⟨0, s, rfl, ⟨Nat.zero_le _⟩, HST, HF⟩
      case round =>
        obtain ⟨j, s1, rfl, HJ, HSb, HFb⟩ := hrel
        obtain ⟨y1, rfl⟩ : ∃ y1 : World, y1 = wr := ⟨_, rfl⟩
        have hj := HJ.out
        by_cases hlt : j < vs.length
        · obtain ⟨ad, e9, y0, y1_, y2, y3, y4, y5, y6, y7⟩ := at_T43 (Kd.R_reads' HFb.out.row).2.2 (j : Int) (by omega) (by omega)
          obtain rfl := e9
          obtain ⟨q, hq⟩ : ∃ q, rd_T43 vs (j : Int) = q := ⟨_, rfl⟩
          have HQ := Aside0.mk hq
          rw [hq] at y0 y1_ y2 y3 y4 y5 y6 y7
          rw [Int.toNat_natCast] at y0 y1_ y2 y3 y4 y5 y6 y7
          have hcap := (Kd.R_reads' HFb.out.row).2.1
          clear hq
          go_upto_region 17 with fail
          go_cut [14, 15] (fun s14 s15 wx => ∃ k : Nat, s14 = .int .i64 j ∧ s15 = .pointer (some ⟨k, 0, none⟩) ∧ Aside0 (wx.heap[k]? = some (.cells (box43 q) 43 (0, 0)) ∧ Below y1.heap.size y1 wx))
          case first =>
            go_wp2
            go_meet
            exact ⟨_, rfl, rfl, ⟨blk_new _ _, below_alloc (Below.refl _ _) _⟩⟩
          case rest =>
            obtain ⟨k, rfl, rfl, HX⟩ := hcut
            obtain ⟨x1, rfl⟩ : ∃ x1 : World, x1 = wc := ⟨_, rfl⟩
            have HFx := Aside0.mk (HFb.out.below HX.out.2)
            have c7_ := (at_B43 HX.out.1).2.2.2.2.2.2
            clear y0 y1_ y2 y3 y4 y5 y6 y7 HX
            cases hf7 : q.f7 with
            | true =>
              rw [hf7] at c7_
              have HF7 := Aside0.mk hf7
              have HG2 := Aside0.mk (HSb.out.good.close (j : Int))
              clear hf7
              go_wp2_with (first
                | (go_at_call 28; (with_reducible refine (close_calls base g b 64 s1 (j : Int) x1 HFx.out.ls (Nat.le_trans HFx.out.bw HFx.out.bl.size)).mono ?_); rintro e w4 ⟨rfl, h1, h2, h3⟩; have HL4 := Aside0.mk h1; have HK4 := Aside0.mk h3; have HB4 := Aside0.mk h2; clear h1 h2 h3)
                | fail)
              go_roundw
              case rel => exact ⟨j + 1, _, by simp, ⟨by omega⟩, ⟨HSb.out.close hlt (by rw [HQ.out]; exact HF7.out)⟩, ⟨HFx.out.keep HL4.out HB4.out HK4.out⟩⟩
              case measure => simp [intOf]; omega
            | false =>
              rw [hf7] at c7_
              have HF7 := Aside0.mk hf7
              clear hf7
              go_wp2_with fail
              go_roundw
              case rel => exact ⟨j + 1, s1, by simp, ⟨by omega⟩, ⟨HSb.out.pass (by rw [HQ.out]; exact HF7.out)⟩, HFx⟩
              case measure => simp [intOf]; omega
        · obtain rfl : j = vs.length := by omega
          obtain ⟨_, _, c0, _, _, _, _, _, _⟩ := HFb.out.ls.cells
          go_wp2_with (first
            | (at_len; refine wpList_len_own _ rfl _ 76 rfl 9 80 Try.underlying76 _ b 64 s1.D rfl HFb.out.ls.2.2.2 ?_)
            | (at_len; refine wpList_len_own _ rfl _ 116 rfl 9 3 Try.underlying116 _ bb nb D0 rfl HFb.out.dm ?_)
            | fail)
          go_ret
          refine ⟨_, s1, rfl, HFb.out.ls, HSb.out.good, HFb.out.bl, fun s0 cm => ⟨?_, (cm.back HSb.out).1⟩⟩
          have := (cm.back HSb.out).2
          simp [this]
end Go.Proofs.Ytcbkcgnigncahaa.P
