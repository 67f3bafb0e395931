import Derived.Test.YtcbkcgnigncahaaEGivenYe
namespace Go.Proofs.Ytcbkcgnigncahaa.P
open Go.RowKit Go.Maps Go.Proofs.YtcbkcgnigncahaaW.PrintWords
open Wr (Rd nextF uintF uintL rintF listF rboolF endF U8s uintB intB boolB isI uint_parse int_parse intB_len uintB_len)
set_option linter.unusedVariables false
set_option linter.unusedSimpArgs false
theorem str_back (x : ByteArray) : strOfNums (bytesOf x) = x := by
  refine ByteArray.ext (Array.toList_inj.1 ?_)
  rw [strOfNums_data]
  unfold Go.Proofs.YtcbkcgnigncahaaW.PrintWords.bytesOf
  rw [List.map_map]
  refine (List.map_congr_left fun b _ => ?_).trans (List.map_id _)
  show UInt8.ofNat ((b.toNat : Nat) : Int).toNat = b
  rw [Int.toNat_natCast]
  exact UInt8.ofNat_toNat
theorem text_parse (x : ByteArray) (hx : x.size ≤ 1000000) (rest : List Int) : listF ⟨txtB x ++ rest, 0⟩ = (bytesOf x, ⟨rest, 0⟩) := by
  have hl := bytesOf_len x
  have h := uint_parse (x.size : Int) (by omega) (by omega) (bytesOf x ++ rest)
  unfold txtB Wr.listF
  rw [List.append_assoc, h]
  simp only
  have hb : Wr.lenBad (x.size : Int) ⟨bytesOf x ++ rest, 0⟩ = false := decide_eq_false (by rw [List.length_append, hl]; omega)
  rw [hb]
  simp only [Bool.false_eq_true, if_false, if_true, Int.toNat_natCast]
  rw [← hl, List.take_left, List.drop_left]
theorem bool_parse (b : Bool) (rest : List Int) : rboolF ⟨boolB b ++ rest, 0⟩ = (b, ⟨rest, 0⟩) := by
  cases b <;> rfl
theorem ver_parse (q : S43) (h2 : q.f2.size ≤ 16) (h6 : 0 ≤ q.f6 ∧ q.f6 < 18446744073709551616) (h1 : isI q.f1) (h3 : isI q.f3) (h4 : isI q.f4) (h5 : isI q.f5) (rest : List Int) : verF ⟨verB (toV q) ++ rest, 0⟩ = ({ q with f0 := 0 }, ⟨rest, 0⟩) := by
  unfold verF verB toV
  simp only [List.append_assoc]
  rw [int_parse _ h1]; simp only
  rw [text_parse _ (by omega)]; simp only
  rw [int_parse _ h3]; simp only
  rw [int_parse _ h4]; simp only
  rw [int_parse _ h5]; simp only
  rw [uint_parse _ h6.1 h6.2]; simp only
  rw [bool_parse, str_back]
def putB (D : DataW Unit) (b : S97) : DataW Unit := D.put (keyB b.f0) (intD b.f1)
theorem bases_parse (rest : List Int) : ∀ (B : List S97) (D : DataW Unit), (∀ b ∈ B, b.f0.size ≤ 16 ∧ isI b.f1) → basesL B.length D ⟨B.flatMap brB ++ rest, 0⟩ = (B.foldl putB D, ⟨rest, 0⟩)
  | [], D, _ => rfl
  | b :: B, D, h => by
    have hb := h b List.mem_cons_self
    rw [List.length_cons]
    simp only [basesL, List.flatMap_cons, List.foldl_cons]
    unfold brB
    rw [List.append_assoc, List.append_assoc, text_parse _ (by omega)]
    simp only
    rw [int_parse _ hb.2, str_back]
    exact bases_parse rest B _ (fun x hx => h x (List.mem_cons_of_mem _ hx))
theorem vers_parse (rest : List Int) : ∀ (V : List S43) (acc : List S43), (∀ q ∈ V, q.f2.size ≤ 16 ∧ (0 ≤ q.f6 ∧ q.f6 < 18446744073709551616) ∧ isI q.f1 ∧ isI q.f3 ∧ isI q.f4 ∧ isI q.f5) →
    verL V.length acc ⟨(vOf V).flatMap verB ++ rest, 0⟩ = (acc ++ V.map (fun q => { q with f0 := 0 }), ⟨rest, 0⟩)
  | [], acc, _ => by simp [verL, vOf]
  | q :: V, acc, h => by
    obtain ⟨g1, g2, g3, g4, g5, g6⟩ := h q List.mem_cons_self
    rw [List.length_cons]
    show verL (V.length + 1) acc ⟨(toV q :: vOf V).flatMap verB ++ rest, 0⟩ = _
    simp only [verL, List.flatMap_cons]
    rw [List.append_assoc, ver_parse q g1 g2 g3 g4 g5 g6]
    simp only
    rw [vers_parse rest V _ (fun x hx => h x (List.mem_cons_of_mem _ hx))]
    simp
structure DOk (D : DataW Unit) : Prop where
  tidy : Tidy D
  keyed : Keyed D
  ris : ∃ es, D = .map es ∧ es.Pairwise beforeP
theorem DOk.put {D : DataW Unit} (h : DOk D) (b : S97) : DOk (putB D b) := ⟨h.tidy.put (key_lit2 _) _, h.keyed.put _ _, put_ris h.ris h.keyed _⟩
theorem dok0 : DOk (.map []) := ⟨tidy_empty, ⟨[], rfl, rfl⟩, ⟨[], rfl, List.Pairwise.nil⟩⟩
theorem DOk.fold : ∀ (l : List S97) {D : DataW Unit}, DOk D → DOk (l.foldl putB D)
  | [], _, h => h
  | b :: l, _, h => DOk.fold l (h.put b)
theorem has_fold (x : ByteArray) : ∀ (l : List S97) {D : DataW Unit}, DOk D → (hasB (l.foldl putB D) x = true ↔ (hasB D x = true ∨ ∃ b ∈ l, b.f0 = x))
  | [], D, _ => by simp
  | b :: l, D, h => by
    rw [List.foldl_cons, has_fold x l (h.put b)]
    have hp : hasB (putB D b) x = true ↔ (hasB D x = true ∨ b.f0 = x) := by
      unfold putB
      by_cases e : x = b.f0
      · subst e
        rw [hasB_put_same h.tidy]
        simp
      · rw [hasB_put_other e]
        exact ⟨fun h => .inl h, fun h => h.resolve_right (fun e2 => e e2.symm)⟩
    rw [hp]
    constructor
    · rintro ((h1 | h1) | ⟨c, hc, h1⟩)
      · exact .inl h1
      · exact .inr ⟨b, List.mem_cons_self, h1⟩
      · exact .inr ⟨c, List.mem_cons_of_mem _ hc, h1⟩
    · rintro (h1 | ⟨c, hc, h1⟩)
      · exact .inl (.inl h1)
      · rcases List.mem_cons.1 hc with rfl | hc
        · exact .inl (.inr h1)
        · exact .inr ⟨c, hc, h1⟩
theorem base_other (x : ByteArray) : ∀ (l : List S97) (D : DataW Unit), (∀ b ∈ l, b.f0 ≠ x) → baseD (l.foldl putB D) x = baseD D x
  | [], _, _ => rfl
  | b :: l, D, h => by
    rw [List.foldl_cons, base_other x l _ (fun c hc => h c (List.mem_cons_of_mem _ hc))]
    exact baseD_put_other (fun e => h b List.mem_cons_self e.symm) _
theorem base_fold : ∀ (l : List S97) {D : DataW Unit}, DOk D → l.Pairwise befB → ∀ b ∈ l, baseD (l.foldl putB D) b.f0 = b.f1
  | [], _, _, _, b, hb => by cases hb
  | a :: l, D, h, hp, b, hb => by
    obtain ⟨h1, h2⟩ := List.pairwise_cons.1 hp
    rw [List.foldl_cons]
    rcases List.mem_cons.1 hb with rfl | hb
    · rw [base_other _ l _ (fun c hc e => ?_)]
      · exact baseD_put_same h.tidy _ _
      · have := h1 c hc
        unfold befB at this
        rw [e, bb_irr] at this
        cases this
    · exact base_fold l (h.put a) h2 b hb
theorem flat_ge {α : Type} (f : α → List Int) : ∀ l : List α, (∀ x ∈ l, 0 < (f x).length) → l.length ≤ (l.flatMap f).length
  | [], _ => by simp
  | x :: l, h => by
    rw [List.flatMap_cons, List.length_append, List.length_cons]
    have h1 := h x List.mem_cons_self
    have h2 := flat_ge f l (fun y hy => h y (List.mem_cons_of_mem _ hy))
    omega
theorem uintB_pos (n : Int) : 0 < (uintB 9 n).length := by
  simp only [Wr.uintB]
  split <;> simp
theorem capN_le (n m : Nat) (h : n ≤ m) : capN (n : Int) m = n := by
  unfold capN
  rw [if_neg (by omega), Int.toNat_natCast]
/-- Decode reads from a line's bytes what the line is played again from. -/
theorem rd_line {s0 : Ln} (h : Good4 s0) : ∃ D0 vs, decRd (lineB (rfOf s0)) = (D0, vs, ⟨[], 0⟩) ∧ Comes D0 vs s0 := by
  have hn := h.neat
  have hv : ∀ q ∈ s0.V, q.f2.size ≤ 16 ∧ (0 ≤ q.f6 ∧ q.f6 < 18446744073709551616) ∧ isI q.f1 ∧ isI q.f3 ∧ isI q.f4 ∧ isI q.f5 := by
    intro q hq
    have := hn.nv (toV q) (by show toV q ∈ vOf s0.V; exact List.mem_map.2 ⟨q, hq, rfl⟩)
    exact this
  have hvl : (vOf s0.V).length = s0.V.length := by unfold vOf; rw [List.length_map]
  obtain ⟨bs, hbs⟩ : ∃ bs, lineB (rfOf s0) = bs := ⟨_, rfl⟩
  have hlen : (bOf s0.D).length ≤ bs.length ∧ s0.V.length ≤ bs.length := by
    have h1 := flat_ge brB (bOf s0.D) (fun b _ => by unfold brB txtB; have := uintB_pos (b.f0.size : Int); simp only [List.length_append]; omega)
    have h2 := flat_ge verB (vOf s0.V) (fun v _ => by unfold verB; have := uintB_pos (Wr.zigF v.f1); unfold Wr.intB; simp only [List.length_append]; omega)
    rw [← hbs]
    unfold lineB rfOf
    simp only [List.length_append]
    omega
  have hd : decRd bs = ((bOf s0.D).foldl putB (.map []), s0.V.map (fun q => { q with f0 := 0 }), ⟨[], 0⟩) := by
    have hfew := hn.few
    have hmost := hn.most
    have e1 : rintF ⟨bs, 0⟩ = (((bOf s0.D).length : Int), ⟨(bOf s0.D).flatMap brB ++ (intB (s0.V.length : Int) ++ (vOf s0.V).flatMap verB), 0⟩) := by
      rw [← hbs]
      unfold lineB rfOf
      simp only
      rw [hvl]
      exact int_parse _ (by have : (bOf s0.D).length ≤ 64 := hfew; unfold Wr.isI; omega) _
    have e2 := bases_parse (intB (s0.V.length : Int) ++ (vOf s0.V).flatMap verB) (bOf s0.D) (.map []) hn.nb
    have e3 : rintF ⟨intB (s0.V.length : Int) ++ (vOf s0.V).flatMap verB, 0⟩ = ((s0.V.length : Int), ⟨(vOf s0.V).flatMap verB, 0⟩) :=
      int_parse _ (by have : (vOf s0.V).length ≤ 1024 := hmost; unfold Wr.isI; omega) _
    have e4 := vers_parse [] s0.V [] hv
    rw [List.append_nil, List.nil_append] at e4
    unfold decRd
    simp only
    rw [e1]
    simp only
    rw [capN_le _ _ hlen.1, e2]
    simp only
    rw [e3]
    simp only
    rw [capN_le _ _ hlen.2, e4]
  rw [← hbs] at hd
  have hk := DOk.fold (bOf s0.D) dok0
  refine ⟨_, _, hd, h, hk.keyed, hk.ris, by rw [List.length_map], fun i h0 h1 => ?_, fun x => ?_, fun x hx => ?_⟩
  · rw [List.length_map] at h1
    unfold rd_T43
    rw [List.getD_eq_getElem?_getD, List.getD_eq_getElem?_getD, List.getElem?_map, List.getElem?_eq_getElem (show i.toNat < s0.V.length by omega)]
    rfl
  · rw [Bool.eq_iff_iff, has_fold x _ dok0, ← mem_namesD h.keyed x]
    unfold namesD
    rw [List.mem_map]
    constructor
    · rintro (h1 | ⟨b, hb, h1⟩)
      · exact absurd h1 (by simp [hasB, Maps.has, has_eq])
      · exact ⟨b, hb, h1⟩
    · rintro ⟨b, hb, h1⟩
      exact .inr ⟨b, hb, h1⟩
  · have hm : (⟨x, (lkp s0.D x).1⟩ : S97) ∈ bOf s0.D := (mem_bOf h.ris h.keyed _).2 ⟨hx, rfl⟩
    exact base_fold _ dok0 (bOf_sorted h.ris h.keyed) _ hm
end Go.Proofs.Ytcbkcgnigncahaa.P
