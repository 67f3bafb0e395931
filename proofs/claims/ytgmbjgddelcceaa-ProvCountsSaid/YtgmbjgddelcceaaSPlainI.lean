import Derived.Test.YtgmbjgddelcceaaSPlainS
import Derived.Test.YtgmbjgddelcceaaSPx17
import Derived.Test.YtgmbjgddelcceaaSPlainH
set_option linter.unusedVariables false
set_option linter.unusedSimpArgs false
namespace Go.Proofs.Ytgmbjgddelcceaa.P
open Go.RowKit Go.Proofs.YtgmbjgddelcceaaW.PrintWords Go.Proofs.YtgmbjgddelcceaaW.PrintLast
def stepC (sc n : Int) (p : S80) : Int := if p.f3.f0 = sc then wrap64 (n + wrap64 (p.f2 - p.f1)) else n
def countF (l : List S80) (sc : Int) : Int := l.foldl (stepC sc) 0
theorem rd80_get (l : List S80) (i : Int) (h0 : 0 ≤ i) (h : i < l.length) : rd_T80 l i = l[i.toNat]'(by omega) := by
  simp [rd_T80, List.getD_eq_getElem?_getD, List.getElem?_eq_getElem (show i.toNat < l.length by omega)]
theorem drop_succ80 (l : List S80) (i : Int) (h0 : 0 ≤ i) (h : i < l.length) : l.drop i.toNat = rd_T80 l i :: l.drop (i + 1).toNat := by
  rw [rd80_get l i h0 h, show (i + 1).toNat = i.toNat + 1 from by omega]
  exact List.drop_eq_getElem_cons (by omega)
theorem count_loop (l : List S80) (hl : l.length ≤ 1000000) (sc : Int) : ∀ (d : Nat) (i n : Int), (l.length : Int) - i = d → 0 ≤ i → Ev (fun k => prov_Count.l0 k sc n l (l.length : Int) i) ((l.drop i.toNat).foldl (stepC sc) n) := by
  intro d
  induction d with
  | zero =>
    intro i n hd h0
    rw [List.drop_of_length_le (by omega)]
    refine Ev.step (f := fun _ => some n) (fun k => ?_) (Ev.now _)
    conv => lhs; unfold prov_Count.l0
    rw [if_neg (by omega)]
  | succ d ih =>
    intro i n hd h0
    rw [drop_succ80 l i h0 (by omega), List.foldl_cons]
    refine Ev.step (f := fun k => prov_Count.l0 k sc (stepC sc n (rd_T80 l i)) l (l.length : Int) (i + 1)) (fun k => ?_) (ih (i + 1) _ (by omega) (by omega))
    conv => lhs; unfold prov_Count.l0
    rw [if_pos (by omega), if_pos h0, if_pos (by omega), w64 (x := i + 1) (by omega)]
    unfold stepC
    by_cases h : (rd_T80 l i).f3.f0 = sc
    · rw [if_pos h, if_pos h]
    · rw [if_neg h, if_neg h]
theorem count_ends (l : List S80) (hl : l.length ≤ 1000000) (sc : Int) : Ev (fun k => prov_Count.f k l sc) (countF l sc) := count_loop l hl sc l.length 0 0 (by omega) (by omega)
theorem has_loop (l : List Int) (hl : l.length ≤ 1000000) (a : Int) : ∀ (d : Nat) (i : Int), (l.length : Int) - i = d → 0 ≤ i → Ev (fun k => skymosaicref01_Has.l0 k l a i) (decide (a ∈ l.drop i.toNat)) := by
  intro d
  induction d with
  | zero =>
    intro i hd h0
    rw [List.drop_of_length_le (by omega)]
    refine Ev.step (f := fun _ => some false) (fun k => ?_) (Ev.now _)
    conv => lhs; unfold skymosaicref01_Has.l0
    rw [if_neg (by omega)]
  | succ d ih =>
    intro i hd h0
    have e : l.drop i.toNat = rd l i :: l.drop (i + 1).toNat := by
      rw [rdI_get l i h0 (by omega), show (i + 1).toNat = i.toNat + 1 from by omega]
      exact List.drop_eq_getElem_cons (by omega)
    by_cases h : rd l i = a
    · have : decide (a ∈ l.drop i.toNat) = true := decide_eq_true (by rw [e, h]; exact List.mem_cons_self)
      rw [this]
      refine Ev.step (f := fun _ => some true) (fun k => ?_) (Ev.now _)
      conv => lhs; unfold skymosaicref01_Has.l0
      rw [if_pos (by omega), if_pos h0, if_pos h]
    · have : decide (a ∈ l.drop i.toNat) = decide (a ∈ l.drop (i + 1).toNat) := by
        rw [e]
        exact decide_eq_decide.2 ⟨fun hm => (List.mem_cons.1 hm).resolve_left (fun e => h e.symm), fun hm => List.mem_cons_of_mem _ hm⟩
      rw [this]
      refine Ev.step (f := fun k => skymosaicref01_Has.l0 k l a (i + 1)) (fun k => ?_) (ih (i + 1) (by omega) (by omega))
      conv => lhs; unfold skymosaicref01_Has.l0
      rw [if_pos (by omega), if_pos h0, if_neg h, w64 (by omega)]
theorem has_ends (l : List Int) (hl : l.length ≤ 1000000) (a : Int) : Ev (fun k => skymosaicref01_Has.f k l a) (decide (a ∈ l)) := has_loop l hl a l.length 0 (by omega) (by omega)
def cnt : List S71 → Int → Int
  | [], _ => 0
  | x :: xs, sc => (if x.f0 = sc then 1 else 0) + cnt xs sc
theorem cnt_app (xs ys : List S71) (sc : Int) : cnt (xs ++ ys) sc = cnt xs sc + cnt ys sc := by
  induction xs with
  | nil => simp [cnt]
  | cons x xs ih => simp only [List.cons_append, cnt, ih]; omega
theorem cnt_le (xs : List S71) (sc : Int) : 0 ≤ cnt xs sc ∧ cnt xs sc ≤ xs.length := by
  induction xs with
  | nil => simp [cnt]
  | cons x xs ih => simp only [cnt, List.length_cons]; split <;> omega
theorem cnt_pos {xs : List S71} {x : S71} (h : x ∈ xs) : 1 ≤ cnt xs x.f0 := by
  induction xs with
  | nil => cases h
  | cons y xs ih =>
    simp only [cnt]
    have h0 := (cnt_le xs x.f0).1
    rcases List.mem_cons.1 h with rfl | h
    · rw [if_pos rfl]; omega
    · have := ih h
      split <;> omega
def pixOf (p : S80) : List S71 := pixs p (p.f2 - p.f1).toNat
theorem cnt_pix (p : S80) (sc : Int) : ∀ n : Nat, cnt (pixs p n) sc = if p.f3.f0 = sc then (n : Int) else 0
  | 0 => by simp [pixs, cnt]
  | n + 1 => by
    have e : pixs p (n + 1) = pixs p n ++ [atS p (n : Int)] := by simp [pixs, List.range_succ]
    rw [e, cnt_app, cnt_pix p sc n]
    have : (atS p (n : Int)).f0 = p.f3.f0 := rfl
    simp only [cnt, this]
    split <;> simp
def okP (p : S80) : Prop := 0 ≤ p.f1 ∧ p.f1 < p.f2 ∧ p.f2 ≤ 16
def sumC : List S80 → Int → Int
  | [], _ => 0
  | p :: l, sc => (if p.f3.f0 = sc then p.f2 - p.f1 else 0) + sumC l sc
theorem cnt_flat (sc : Int) : ∀ l : List S80, (∀ p ∈ l, okP p) → cnt (l.flatMap pixOf) sc = sumC l sc
  | [], _ => rfl
  | p :: l, h => by
    have hp := h p List.mem_cons_self
    rw [List.flatMap_cons, cnt_app, cnt_flat sc l (fun q hq => h q (List.mem_cons_of_mem _ hq))]
    unfold pixOf
    rw [cnt_pix]
    simp only [sumC]
    unfold okP at hp
    split <;> omega
theorem go_flat : ∀ (l : List S80) (out o : List S71), unpackGo l out = some o → (∀ p ∈ l, okP p) ∧ o = out ++ l.flatMap pixOf
  | [], out, o, h => by simp only [unpackGo, Option.some.injEq] at h; exact ⟨fun p hp => (by cases hp), (by simp [h])⟩
  | p :: ps, out, o, h => by
    simp only [unpackGo] at h
    split at h
    · cases h
    · rename_i hb
      split at h
      · cases h
      · obtain ⟨h1, h2⟩ := go_flat ps _ o h
        refine ⟨fun q hq => ?_, by rw [h2, List.flatMap_cons, List.append_assoc]; rfl⟩
        rcases List.mem_cons.1 hq with rfl | hq
        · simp only [badPiece, Bool.or_eq_true, bne_iff_ne, decide_eq_true_eq, not_or, Decidable.not_not] at hb
          unfold okP
          omega
        · exact h1 q hq
theorem fold_sum (sc : Int) : ∀ (l : List S80) (n : Int), (∀ p ∈ l, okP p) → 0 ≤ n → n + 16 * l.length ≤ 1000000000 → l.foldl (stepC sc) n = n + sumC l sc
  | [], n, _, _, _ => by simp [sumC]
  | p :: l, n, h, h0, hn => by
    have hp := h p List.mem_cons_self
    unfold okP at hp
    rw [List.length_cons] at hn
    have e : stepC sc n p = n + (if p.f3.f0 = sc then p.f2 - p.f1 else 0) := by
      unfold stepC
      split
      · rw [w64 (x := p.f2 - p.f1) (by omega), w64 (by omega)]
      · omega
    rw [List.foldl_cons, e, fold_sum sc l _ (fun q hq => h q (List.mem_cons_of_mem _ hq)) (by split <;> omega) (by split <;> omega)]
    simp only [sumC]; omega
theorem rowP_ne (r : Int) (l : List S71) : 1 ≤ (rowP r l 16 0).length := by
  show 1 ≤ (rowP r l (15 + 1) 0).length
  simp only [rowP]
  rw [if_pos (by omega)]
  simp
theorem packRows_ge (xs : List S71) : ∀ (k : Nat) (r : Int), k ≤ (packRows xs k r).length
  | 0, r => Nat.zero_le _
  | k + 1, r => by
    simp only [packRows, List.length_append]
    have := rowP_ne r (rowOf xs r)
    have := packRows_ge xs k (r + 1)
    omega
theorem pack_facts (xs : List S71) (hx : xs.length = 256) (hv : xs.any badS = false) : (∀ p ∈ packL xs, okP p) ∧ xs = (packL xs).flatMap pixOf ∧ 16 ≤ (packL xs).length ∧ (packL xs).length ≤ 256 := by
  have h := unpack_tail xs hx hv 256 0 (by omega) (by omega) (by omega)
  rw [← packL_tail] at h
  obtain ⟨h1, h2⟩ := go_flat _ _ _ h
  refine ⟨h1, by simpa using h2, packRows_ge xs 16 0, ?_⟩
  exact packRows_len xs 16 0
theorem count_pack (xs : List S71) (hx : xs.length = 256) (hv : xs.any badS = false) (sc : Int) : countF (packL xs) sc = cnt xs sc := by
  obtain ⟨h1, h2, h3, h4⟩ := pack_facts xs hx hv
  unfold countF
  rw [fold_sum sc _ 0 h1 (by omega) (by omega), ← cnt_flat sc _ h1, ← h2]
  omega
def sumL : List Int → Int
  | [] => 0
  | x :: l => x + sumL l
theorem sum_step (xs : List S71) (x : S71) : ∀ u : List Int, u.Nodup → sumL (u.map (cnt (x :: xs))) = sumL (u.map (cnt xs)) + if x.f0 ∈ u then 1 else 0
  | [], _ => by simp [sumL]
  | a :: u, h => by
    have h1 := List.nodup_cons.1 h
    simp only [List.map_cons, sumL]
    rw [sum_step xs x u h1.2]
    simp only [cnt, List.mem_cons]
    by_cases ha : x.f0 = a
    · rw [if_pos ha, if_pos (Or.inl ha), if_neg (fun hm => h1.1 (ha ▸ hm))]; omega
    · rw [if_neg ha]
      by_cases hm : x.f0 ∈ u
      · rw [if_pos hm, if_pos (Or.inr hm)]; omega
      · rw [if_neg hm, if_neg (fun h => h.elim ha hm)]; omega
theorem parts (u : List Int) (hu : u.Nodup) (hm : (-1 : Int) ∉ u) : ∀ xs : List S71, (∀ x ∈ xs, x.f0 = -1 ∨ x.f0 ∈ u) → sumL (u.map (cnt xs)) + cnt xs (-1) = xs.length
  | [], _ => by
    have : ∀ u : List Int, sumL (u.map (cnt [])) = 0 := by
      intro u
      induction u with
      | nil => rfl
      | cons a u ih => show cnt [] a + sumL (u.map (cnt [])) = 0; rw [ih]; rfl
    rw [this]; simp [cnt]
  | x :: xs, h => by
    have ih := parts u hu hm xs (fun y hy => h y (List.mem_cons_of_mem _ hy))
    rw [sum_step xs x u hu]
    simp only [cnt, List.length_cons]
    rcases h x List.mem_cons_self with hx | hx
    · rw [if_pos hx, if_neg (by rw [hx]; exact hm)]; omega
    · rw [if_pos hx, if_neg (fun e : x.f0 = -1 => hm (e ▸ hx))]; omega
theorem pack_scenes (xs : List S71) (hx : xs.length = 256) (hv : xs.any badS = false) :
    (∀ x ∈ xs, x.f0 = -1 ∨ x.f0 ∈ scenesF (packL xs)) ∧ (∀ a ∈ scenesF (packL xs), 0 ≤ a ∧ 1 ≤ cnt xs a) := by
  obtain ⟨h1, h2, h3, h4⟩ := pack_facts xs hx hv
  constructor
  · intro x hm
    by_cases h : x.f0 = -1
    · exact .inl h
    · right
      rw [h2] at hm
      obtain ⟨p, hp, hq⟩ := List.mem_flatMap.1 hm
      refine (scenesF_mem _ _).2 ⟨h, p, hp, ?_⟩
      unfold pixOf pixs at hq
      obtain ⟨j, _, rfl⟩ := List.mem_map.1 hq
      rfl
  · intro a ha
    obtain ⟨hne, p, hp, rfl⟩ := (scenesF_mem _ _).1 ha
    have hf := pack_first xs hx p hp
    have hb : badS p.f3 = false := by
      cases hb : badS p.f3 with
      | false => rfl
      | true =>
        have : xs.any badS = true := List.any_eq_true.2 ⟨_, hf, hb⟩
        rw [hv] at this; cases this
    refine ⟨?_, cnt_pos hf⟩
    unfold badS validB noneB at hb
    unfold scOf at hne ⊢
    simp only [Bool.not_eq_false', Bool.or_eq_true, Bool.and_eq_true, beq_iff_eq, decide_eq_true_eq] at hb
    rcases hb with hb | hb
    · exact absurd hb.1 hne
    · exact hb.1
theorem total (xs : List S71) (hx : xs.length = 256) (hv : xs.any badS = false) : sumL ((scenesF (packL xs)).map (cnt xs)) + cnt xs (-1) = 256 := by
  have := parts (scenesF (packL xs)) (scenesF_nodup _) (fun h => ((scenesF_mem _ _).1 h).1 rfl) xs (pack_scenes xs hx hv).1
  rw [this, hx]; rfl
theorem scenes_some (l : List S80) (hl : l.length ≤ 1000000) (hu : ∀ p ∈ l, uOk p.f3) : prov_Scenes.f l = some (scenesF l) := by
  have h : l.all wfScene = true := by
    refine List.all_eq_true.2 fun p hp => ?_
    have := (hu p hp).2
    unfold wfScene
    simp [Lit.wf, IntKind.min, IntKind.max, IntKind.bits, IntKind.signed]
    omega
  unfold prov_Scenes.f
  rw [if_pos ⟨h, hl⟩]
end Go.Proofs.Ytgmbjgddelcceaa.P
