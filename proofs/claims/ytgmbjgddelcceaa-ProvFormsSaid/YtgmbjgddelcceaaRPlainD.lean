import Derived.Test.YtgmbjgddelcceaaRPlainC
import Derived.Test.YtgmbjgddelcceaaRPx8
set_option linter.unusedVariables false
set_option linter.unusedSimpArgs false
namespace Go.Proofs.Ytgmbjgddelcceaa.P
open Go.RowKit Go.Proofs.YtgmbjgddelcceaaW.PrintWords Go.Proofs.YtgmbjgddelcceaaW.PrintLast
def unconv (p : S74) : S80 := ⟨p.f0, p.f1, p.f2, p.f3, p.f4, p.f5⟩
theorem unconv_conv (p : S80) : unconv (conv p) = p := rfl
theorem conv_unconv (p : S74) : conv (unconv p) = p := rfl
theorem conv_inj {a b : S80} (h : conv a = conv b) : a = b := by rw [← unconv_conv a, h, unconv_conv]
theorem map_conv_inj : ∀ {a b : List S80}, a.map conv = b.map conv → a = b
  | [], [], _ => rfl
  | [], _ :: _, h => by simp at h
  | _ :: _, [], h => by simp at h
  | x :: a, y :: b, h => by
    simp only [List.map_cons, List.cons.injEq] at h
    rw [conv_inj h.1, map_conv_inj h.2]
theorem rd74_get (l : List S74) (i : Int) (h0 : 0 ≤ i) (h : i < l.length) : rd_T74 l i = l[i.toNat]'(by omega) := by
  simp [rd_T74, List.getD_eq_getElem?_getD, List.getElem?_eq_getElem (show i.toNat < l.length by omega)]
theorem take_succ74 (l : List S74) (i : Int) (h0 : 0 ≤ i) (h : i < l.length) : l.take (i + 1).toNat = l.take i.toNat ++ [rd_T74 l i] := by
  rw [show (i + 1).toNat = i.toNat + 1 from by omega, List.take_succ_eq_append_getElem (by omega), rd74_get l i h0 h]
theorem drop_succ74 (l : List S74) (i : Int) (h0 : 0 ≤ i) (h : i < l.length) : l.drop i.toNat = rd_T74 l i :: l.drop (i + 1).toNat := by
  rw [List.drop_eq_getElem_cons (show i.toNat < l.length by omega), show (i + 1).toNat = i.toNat + 1 from by omega, rd74_get l i h0 h]
theorem own_loop (l : List S74) (hl : l.length ≤ 1000000) : ∀ (d : Nat) (i : Int), (l.length : Int) - i = d → 0 ≤ i → Ev (fun k => skymosaiclaw36_own.l0 k l ((l.map unconv).take i.toNat) i) (l.map unconv) := by
  intro d
  induction d with
  | zero =>
    intro i hd h0
    refine Ev.step (f := fun _ => some (l.map unconv)) (fun k => ?_) (Ev.now _)
    conv => lhs; unfold skymosaiclaw36_own.l0
    rw [if_neg (by omega), List.take_of_length_le (by simp; omega)]
  | succ d ih =>
    intro i hd h0
    refine Ev.step (f := fun k => skymosaiclaw36_own.l0 k l ((l.map unconv).take (i + 1).toNat) (i + 1)) (fun k => ?_) (ih (i + 1) (by omega) (by omega))
    conv => lhs; unfold skymosaiclaw36_own.l0
    rw [if_pos (by omega), if_pos h0, if_pos (by rw [List.length_take]; simp only [List.length_map]; omega), w64 (by omega)]
    rw [← List.map_take, ← List.map_take, take_succ74 l i h0 (by omega), List.map_append]
    rfl
theorem own_ends (l : List S74) (hl : l.length ≤ 1000000) : Ev (fun k => skymosaiclaw36_own.f k l) (l.map unconv) := own_loop l hl l.length 0 (by omega) (by omega)
theorem conv_back (l : List S74) : (l.map unconv).map conv = l := by
  rw [List.map_map]
  have : (conv ∘ unconv) = id := rfl
  rw [this, List.map_id]
theorem ne74_iff (a b : S74) : (!(a.f0 == b.f0) || (!(a.f1 == b.f1) || (!(a.f2 == b.f2) || ((!(a.f3.f0 == b.f3.f0) || (!(a.f3.f1 == b.f3.f1) || (!(a.f3.f2 == b.f3.f2) || (!(a.f3.f3 == b.f3.f3))))) || (!(a.f4 == b.f4) || (!(a.f5 == b.f5))))))) = true ↔ a ≠ b := by
  refine (neP_iff (unconv a) (unconv b)).trans ⟨fun h e => h (by rw [e]), fun h e => h ?_⟩
  rw [← conv_unconv a, e, conv_unconv]
theorem same_loop (a b : List S74) (hab : a.length = b.length) (hl : a.length ≤ 1000000) : ∀ (d : Nat) (i : Int), (a.length : Int) - i = d → 0 ≤ i → a.take i.toNat = b.take i.toNat →
    ∃ r, Ev (fun k => skymosaicref36_Same.l0 k a b i) r ∧ (r = true ↔ a = b) := by
  intro d
  induction d with
  | zero =>
    intro i hd h0 ht
    refine ⟨true, Ev.step (f := fun _ => some true) (fun k => ?_) (Ev.now _), ?_⟩
    · conv => lhs; unfold skymosaicref36_Same.l0
      rw [if_neg (by omega)]
    · rw [List.take_of_length_le (by omega), List.take_of_length_le (by omega)] at ht
      simp [ht]
  | succ d ih =>
    intro i hd h0 ht
    by_cases he : rd_T74 a i = rd_T74 b i
    · obtain ⟨r, h1, h2⟩ := ih (i + 1) (by omega) (by omega) (by rw [take_succ74 a i h0 (by omega), take_succ74 b i h0 (by omega), ht, he])
      refine ⟨r, Ev.step (f := fun k => skymosaicref36_Same.l0 k a b (i + 1)) (fun k => ?_) h1, h2⟩
      conv => lhs; unfold skymosaicref36_Same.l0
      rw [if_pos (by omega), if_pos h0, if_pos (by omega), if_neg (by rw [ne74_iff]; simpa using he), w64 (by omega)]
    · refine ⟨false, Ev.step (f := fun _ => some false) (fun k => ?_) (Ev.now _), ?_⟩
      · conv => lhs; unfold skymosaicref36_Same.l0
        rw [if_pos (by omega), if_pos h0, if_pos (by omega), if_pos ((ne74_iff _ _).2 he)]
      · constructor
        · intro h; cases h
        · rintro rfl; exact absurd rfl he
theorem same_ends (a b : List S74) (hl : a.length ≤ 1000000) : ∃ r, Ev (fun k => skymosaicref36_Same.f k a b) r ∧ (r = true ↔ a = b) := by
  by_cases hab : a.length = b.length
  · obtain ⟨r, h1, h2⟩ := same_loop a b hab hl a.length 0 (by omega) (by omega) (by simp)
    refine ⟨r, Ev.congr (f := fun k => skymosaicref36_Same.l0 k a b 0) (fun k => ?_) h1, h2⟩
    unfold skymosaicref36_Same.f
    rw [if_pos (by omega)]
  · refine ⟨false, Ev.congr (f := fun _ => some false) (fun k => ?_) (Ev.now _), ?_⟩
    · unfold skymosaicref36_Same.f
      rw [if_neg (by omega)]
    · constructor
      · intro h; cases h
      · rintro rfl; exact absurd rfl hab
def nx (p : S74) : Nat → S71
  | 0 => p.f3
  | j + 1 => ⟨(nx p j).f0, wrap64 ((nx p j).f1 + p.f4), wrap64 ((nx p j).f2 + p.f5), (nx p j).f3⟩
def npix (p : S74) (n : Nat) : List S71 := (List.range n).map (nx p)
theorem npix_succ (p : S74) (n : Nat) : npix p (n + 1) = npix p n ++ [nx p n] := by simp [npix, List.range_succ]
theorem npix_len (p : S74) (n : Nat) : (npix p n).length = n := by simp [npix]
def refBad (p : S74) (n : Nat) : Bool := decide (p.f2 < 1) || (decide (p.f2 > 16) || (decide (p.f1 < 0) || decide ((n : Int) > 256)))
def refGo : List S74 → List S71 → Option (List S71)
  | [], out => some out
  | p :: ps, out => if refBad p out.length then none else refGo ps (out ++ npix p (p.f2 - p.f1).toNat)
theorem piece_loop (x0 : List S74) (hl : x0.length ≤ 1000000) (i : Int) (h0 : 0 ≤ i) (hi : i < x0.length) (p : S74) (hp : rd_T74 x0 i = p) (h1 : 0 ≤ p.f1) (h2 : p.f2 ≤ 16) (out : List S71) (ho : out.length ≤ 256) (res : List S71 × Int)
    (hres : Ev (fun k => skymosaicref36_Unpack.l0 k x0 (out ++ npix p (p.f2 - p.f1).toNat) (i + 1)) res) :
    ∀ (d : Nat) (t : Int), (p.f2 - t).toNat = d → p.f1 ≤ t → (t = p.f1 ∨ t ≤ p.f2) →
      Ev (fun k => skymosaicref36_Unpack.l1 k x0 (out ++ npix p (t - p.f1).toNat) i t (nx p (t - p.f1).toNat).f0 (nx p (t - p.f1).toNat).f1 (nx p (t - p.f1).toNat).f2 (nx p (t - p.f1).toNat).f3) res := by
  intro d
  induction d with
  | zero =>
    intro t hd ht ht2
    refine Ev.step (f := fun k => skymosaicref36_Unpack.l0 k x0 (out ++ npix p (p.f2 - p.f1).toNat) (i + 1)) (fun k => ?_) hres
    conv => lhs; unfold skymosaicref36_Unpack.l1
    rw [if_pos h0, if_pos hi, hp, if_neg (by omega), w64 (by omega), show (t - p.f1).toNat = (p.f2 - p.f1).toNat from by omega]
  | succ d ih =>
    intro t hd ht ht2
    have hs := ih (t + 1) (by omega) (by omega) (by omega)
    rw [show (t + 1 - p.f1).toNat = (t - p.f1).toNat + 1 from by omega, npix_succ, ← List.append_assoc] at hs
    refine Ev.step (f := fun k => skymosaicref36_Unpack.l1 k x0 (out ++ npix p (t - p.f1).toNat ++ [nx p (t - p.f1).toNat]) i (t + 1) (nx p ((t - p.f1).toNat + 1)).f0 (nx p ((t - p.f1).toNat + 1)).f1 (nx p ((t - p.f1).toNat + 1)).f2 (nx p ((t - p.f1).toNat + 1)).f3) (fun k => ?_) hs
    conv => lhs; unfold skymosaicref36_Unpack.l1
    rw [if_pos h0, if_pos hi, hp, if_pos (by omega), if_pos (by rw [List.length_append, npix_len]; omega), w64 (by omega)]
    rfl
def RefSpec (x0 : List S74) (g : Option (List S71)) (res : List S71 × Int) : Prop :=
  (res = ([], 2) ∨ ∃ o, g = some o ∧ res = (o, 0) ∧ (packF o).2 = 0 ∧ (packF o).1.map conv = x0) ∧ ∀ o, g = some o → (packF o).2 = 0 → (packF o).1.map conv = x0 → res = (o, 0)
theorem pieces_loop (x0 : List S74) (hl : x0.length ≤ 1000000) : ∀ (d : Nat) (i : Int) (out : List S71), (x0.length : Int) - i = d → 0 ≤ i → out.length ≤ 272 →
    ∃ res, Ev (fun k => skymosaicref36_Unpack.l0 k x0 out i) res ∧ RefSpec x0 (refGo (x0.drop i.toNat) out) res := by
  intro d
  induction d with
  | zero =>
    intro i out hd h0 ho
    rw [List.drop_eq_nil_of_le (by omega)]
    have hp := ref_pack out
    obtain ⟨r, hs, hr⟩ := same_ends ((packF out).1.map conv) x0 (by have := packF_len out; simp; omega)
    refine ⟨if (packF out).2 = 0 then if r = true then (out, 0) else ([], 2) else ([], 2), ?_, ?_⟩
    · refine Ev.step (f := fun k => (skymosaicref36_Pack.f k out).bind fun bt270 => ((skymosaicref36_Same.f k bt270.1 x0).bind fun t274 => (if bt270.2 = 0 then (if t274 = true then (some (out, 0)) else (some (([] : List (S71)), 2))) else (some (([] : List (S71)), 2))))) (fun k => ?_) ?_
      · conv => lhs; unfold skymosaicref36_Unpack.l0
        rw [if_neg (by omega)]
      · refine Ev.bind hp (Ev.bind hs ?_)
        refine Ev.congr (f := fun _ => some (if (packF out).2 = 0 then if r = true then (out, 0) else ([], 2) else ([], 2))) (fun k => ?_) (Ev.now _)
        by_cases h1 : (packF out).2 = 0
        · by_cases h2 : r = true
          · simp only [h1, h2, if_true]
          · simp only [h1, h2, if_true, if_false]; simp
        · simp only [h1, if_false]
    · constructor
      · by_cases h1 : (packF out).2 = 0
        · by_cases h2 : r = true
          · refine .inr ⟨out, rfl, ?_, h1, hr.1 h2⟩
            rw [if_pos h1, if_pos h2]
          · left; rw [if_pos h1, if_neg h2]
        · left; rw [if_neg h1]
      · intro o h1 h2 h3
        simp only [refGo, Option.some.injEq] at h1
        subst h1
        rw [if_pos h2, if_pos (hr.2 h3)]
  | succ d ih =>
    intro i out hd h0 ho
    have hdrop := drop_succ74 x0 i h0 (by omega)
    obtain ⟨p, hp⟩ : ∃ p, rd_T74 x0 i = p := ⟨_, rfl⟩
    have hj : ∀ b, Ev (fun k => skymosaicref36_Unpack.j1 k x0 out i b) ([], 2) ∨ b = false := by
      intro b
      cases b with
      | false => exact .inr rfl
      | true =>
        left
        refine Ev.step (f := fun _ => some ([], 2)) (fun k => ?_) (Ev.now _)
        conv => lhs; unfold skymosaicref36_Unpack.j1
        rw [if_pos rfl]
    have hstep : ∀ res, Ev (fun k => skymosaicref36_Unpack.j1 k x0 out i (refBad p out.length)) res → Ev (fun k => skymosaicref36_Unpack.l0 k x0 out i) res := by
      intro res hres
      unfold refBad at hres
      refine Ev.step (f := fun k => skymosaicref36_Unpack.j1 k x0 out i (decide (p.f2 < 1) || (decide (p.f2 > 16) || (decide (p.f1 < 0) || decide ((out.length : Int) > 256))))) (fun k => ?_) hres
      conv => lhs; unfold skymosaicref36_Unpack.l0
      rw [if_pos (by omega), if_pos h0, hp]
      by_cases c1 : p.f2 < 1
      · rw [if_pos c1, decide_eq_true c1]; rfl
      · rw [if_neg c1, decide_eq_false c1]
        by_cases c2 : p.f2 > 16
        · rw [if_pos c2, decide_eq_true c2]; rfl
        · rw [if_neg c2, decide_eq_false c2]
          by_cases c3 : p.f1 < 0
          · rw [if_pos c3, decide_eq_true c3]; rfl
          · rw [if_neg c3, decide_eq_false c3]; rfl
    cases hb : refBad p out.length with
    | true =>
      refine ⟨([], 2), hstep _ ?_, ?_⟩
      · rw [hb]
        rcases hj true with h | h
        · exact h
        · cases h
      · rw [hdrop, hp]
        simp only [refGo]
        rw [hb, if_pos rfl]
        exact ⟨.inl rfl, fun o h => by cases h⟩
    | false =>
      have hb2 := hb
      unfold refBad at hb2
      simp only [Bool.or_eq_false_iff, decide_eq_false_iff_not] at hb2
      obtain ⟨b1, b2, b3, b4⟩ := hb2
      obtain ⟨res, h1, h2⟩ := ih (i + 1) (out ++ npix p (p.f2 - p.f1).toNat) (by omega) (by omega) (by rw [List.length_append, npix_len]; omega)
      refine ⟨res, hstep _ ?_, ?_⟩
      · rw [hb]
        have h3 := piece_loop x0 hl i h0 (by omega) p hp (by omega) (by omega) out (by omega) res h1 _ p.f1 rfl (by omega) (.inl rfl)
        rw [show (p.f1 - p.f1).toNat = 0 from by omega] at h3
        refine Ev.step (f := fun k => skymosaicref36_Unpack.l1 k x0 (out ++ npix p 0) i p.f1 (nx p 0).f0 (nx p 0).f1 (nx p 0).f2 (nx p 0).f3) (fun k => ?_) h3
        conv => lhs; unfold skymosaicref36_Unpack.j1
        rw [if_neg (by simp), if_pos h0, if_pos (by omega), hp]
        have : out ++ npix p 0 = out := by simp [npix]
        rw [this]
        rfl
      · rw [hdrop, hp]
        simp only [refGo]
        rw [hb, if_neg (by simp)]
        exact h2
theorem refGo_back (l : List S71) (hl : l.length = 256) (hv : l.any badS = false) : ∀ (d : Nat) (i : Int), 256 - i ≤ d → 0 ≤ i → i ≤ 256 → refGo ((tailP l i).map conv) (l.take i.toNat) = some l := by
  have hend : refGo ((tailP l 256).map conv) (l.take (256 : Int).toNat) = some l := by
    have : tailP l 256 = [] := by unfold tailP; rw [if_neg (by omega)]
    rw [this]
    simp only [List.map_nil, refGo]
    rw [List.take_of_length_le (by rw [hl]; decide)]
  intro d
  induction d with
  | zero => intro i hd h0 h; obtain rfl : i = 256 := by omega
            exact hend
  | succ d ih =>
    intro i hd h0 h
    by_cases hlt : i < 256
    · obtain ⟨r, hr⟩ : ∃ r, i / 16 = r := ⟨_, rfl⟩
      obtain ⟨fr, hfr⟩ : ∃ fr, i % 16 = fr := ⟨_, rfl⟩
      have hto := beginF_to r (rowOf l r) fr (by omega)
      have hstep := tailP_step l i h0 hlt
      rw [hr, hfr] at hstep
      have hpx := begin_pixs l hl hv r fr (by omega) (by omega) (by omega) (by omega)
      have next := ih (r * 16 + (beginF r (rowOf l r) fr).f2) (by omega) (by omega) (by omega)
      have hf0 : (beginF r (rowOf l r) fr).f0 = r := by unfold beginF begin0; split <;> rfl
      have hf1 : (beginF r (rowOf l r) fr).f1 = fr := by unfold beginF begin0; split <;> rfl
      have hf3 : (beginF r (rowOf l r) fr).f3 = rd_T71 l (r * 16 + fr) := by
        rw [← rd_row l hl r fr (by omega) (by omega) (by omega) (by omega)]
        unfold beginF begin0
        split <;> rfl
      rw [hstep]
      generalize beginF r (rowOf l r) fr = p at *
      have hlen : ((l.take i.toNat).length : Int) = i := by rw [List.length_take]; omega
      have hbp : refBad (conv p) (l.take i.toNat).length = false := by
        unfold refBad
        have e1 : (conv p).f2 = p.f2 := rfl
        have e2 : (conv p).f1 = p.f1 := rfl
        rw [e1, e2, hf1, hlen, decide_eq_false (show ¬ p.f2 < 1 by omega), decide_eq_false (show ¬ p.f2 > 16 by omega), decide_eq_false (show ¬ fr < 0 by omega), decide_eq_false (show ¬ i > 256 by omega)]
        rfl
      have hnx : ∀ j : Nat, fr + j < p.f2 → nx (conv p) j = rd_T71 l (r * 16 + fr + j) := by
        intro j
        induction j with
        | zero =>
          intro _
          show p.f3 = _
          rw [hf3]; congr 1; omega
        | succ j ihj =>
          intro hj
          have e1 := ihj (by omega)
          have e2 := hpx j (by omega) (by omega)
          have e3 := hpx (j + 1) (by omega) (by omega)
          have e4 : nx (conv p) j = atS p j := by rw [e1, e2]
          have e5 : ((j + 1 : Nat) : Int) = (j : Int) + 1 := by omega
          rw [e5, ← e3]
          show (⟨(nx (conv p) j).f0, wrap64 ((nx (conv p) j).f1 + p.f4), wrap64 ((nx (conv p) j).f2 + p.f5), (nx (conv p) j).f3⟩ : S71) = _
          rw [e4]
          unfold atS
          simp only [wrap_step]
      have hpix : npix (conv p) ((conv p).f2 - (conv p).f1).toNat = (l.drop i.toNat).take (p.f2 - p.f1).toNat := by
        have e1 : (conv p).f2 = p.f2 := rfl
        have e2 : (conv p).f1 = p.f1 := rfl
        rw [e1, e2]
        apply List.ext_getElem
        · rw [npix_len, List.length_take, List.length_drop]; omega
        · intro j hj1 hj2
          rw [npix_len] at hj1
          simp only [npix, List.getElem_map, List.getElem_range, List.getElem_take, List.getElem_drop]
          rw [hnx j (by omega)]
          have := rd_get l (r * 16 + fr + j) (by omega) (by omega)
          rw [← this]
          congr 1
          omega
      simp only [List.map_cons, refGo]
      rw [hbp, if_neg (by simp), hpix, ← List.take_add]
      rw [show i.toNat + (p.f2 - p.f1).toNat = (r * 16 + p.f2).toNat from by omega]
      exact next
    · obtain rfl : i = 256 := by omega
      exact hend
theorem unpackGo_good : ∀ (xs : List S80) (out o : List S71), unpackGo xs out = some o → out.any badS = false → o.any badS = false
  | [], out, o, h, hb => by simp only [unpackGo, Option.some.injEq] at h; rw [← h]; exact hb
  | p :: ps, out, o, h, hb => by
    simp only [unpackGo] at h
    split at h
    · cases h
    · split at h
      · cases h
      · rename_i h2
        refine unpackGo_good ps _ o h ?_
        rw [List.any_append, hb, Bool.false_or]
        simpa using h2
theorem ref_unpack (l : List S80) (hl : l.length ≤ 1000000) : Ev (fun k => skymosaicref36_Unpack.f k (l.map conv)) (unpackF l) := by
  obtain ⟨res, h1, h2, h3⟩ := pieces_loop (l.map conv) (by simpa using hl) (l.map conv).length 0 [] (by omega) (by omega) (by simp)
  have he : res = unpackF l := by
    have hcase : unpackF l = ([], 2) ∨ ∃ o : List S71, unpackF l = (o, 0) ∧ o.length = 256 ∧ o.any badS = false ∧ packL o = l := by
      unfold unpackF
      cases hg : unpackGo l [] with
      | none => exact .inl rfl
      | some o =>
        simp only
        by_cases c1 : (o.length : Int) = 256
        · rw [if_pos c1]
          by_cases c2 : packL o = l
          · rw [if_pos c2]
            exact .inr ⟨o, rfl, by omega, unpackGo_good l [] o hg rfl, c2⟩
          · rw [if_neg c2]; exact .inl rfl
        · rw [if_neg c1]; exact .inl rfl
    rcases hcase with hc | ⟨o, hc, hl2, hv, hpk⟩
    · rcases h2 with h2 | ⟨o, _, _, hp1, hp2⟩
      · rw [h2, hc]
      · exfalso
        have := (unpack_back o hp1).1
        rw [map_conv_inj hp2, hc] at this
        simp at this
    · have hpf : packF o = (l, 0) := by
        unfold packF
        rw [if_pos hl2, hv, if_neg (by simp), hpk]
      rw [hc]
      refine h3 o ?_ (by rw [hpf]) (by rw [hpf])
      have := refGo_back o hl2 hv 256 0 (by omega) (by omega) (by omega)
      rw [← packL_tail, hpk] at this
      simpa using this
  rw [← he]
  exact h1
end Go.Proofs.Ytgmbjgddelcceaa.P
