import Derived.Test.YtgmbjgddelcceaaTPlainS
import Derived.Test.YtgmbjgddelcceaaTPx17
import Derived.Test.YtgmbjgddelcceaaTPlainH
set_option linter.unusedVariables false
set_option linter.unusedSimpArgs false
namespace Go.Proofs.Ytgmbjgddelcceaa.P
open Go.RowKit Go.Proofs.YtgmbjgddelcceaaW.PrintWords Go.Proofs.YtgmbjgddelcceaaW.PrintLast
def stepC (sc n : Int) (p : S80) : Int := if p.f3.f0 = sc then wrap64 (n + wrap64 (p.f2 - p.f1)) else n
def countF (l : List S80) (sc : Int) : Int := l.foldl (stepC sc) 0
theorem rd80_get (l : List S80) (i : Int) (h0 : 0 ≤ i) (h : i < l.length) : rd_T80 l i = l[i.toNat]'(by omega) := by
  simp [rd_T80, List.getD_eq_getElem?_getD, List.getElem?_eq_getElem (show i.toNat < l.length by omega)]
theorem drop_succ80 (l : List S80) (i : Int) (h0 : 0 ≤ i) (h : i < l.length) : l.drop i.toNat = rd_T80 l i :: l.drop (i + 1).toNat := by
  rw [rd80_get l i h0 h, show (i + 1).toNat = i.toNat + 1 from by omega]
  exact List.drop_eq_getElem_cons (by omega)
theorem count_loop (l : List S80) (hl : l.length ≤ 1000000) (sc : Int) : ∀ (d : Nat) (i n : Int), (l.length : Int) - i = d → 0 ≤ i → Ev (fun k => prov_Count.l0 k sc n l (l.length : Int) i) ((l.drop i.toNat).foldl (stepC sc) n) := by
  intro d
  induction d with
  | zero =>
    intro i n hd h0
    rw [List.drop_of_length_le (by omega)]
    refine Ev.step (f := fun _ => some n) (fun k => ?_) (Ev.now _)
    conv => lhs; unfold prov_Count.l0
    rw [if_neg (by omega)]
  | succ d ih =>
    intro i n hd h0
    rw [drop_succ80 l i h0 (by omega), List.foldl_cons]
    refine Ev.step (f := fun k => prov_Count.l0 k sc (stepC sc n (rd_T80 l i)) l (l.length : Int) (i + 1)) (fun k => ?_) (ih (i + 1) _ (by omega) (by omega))
    conv => lhs; unfold prov_Count.l0
    rw [if_pos (by omega), if_pos h0, if_pos (by omega), w64 (x := i + 1) (by omega)]
    unfold stepC
    by_cases h : (rd_T80 l i).f3.f0 = sc
    · rw [if_pos h, if_pos h]
    · rw [if_neg h, if_neg h]
theorem count_ends (l : List S80) (hl : l.length ≤ 1000000) (sc : Int) : Ev (fun k => prov_Count.f k l sc) (countF l sc) := count_loop l hl sc l.length 0 0 (by omega) (by omega)
theorem has_loop (l : List Int) (hl : l.length ≤ 1000000) (a : Int) : ∀ (d : Nat) (i : Int), (l.length : Int) - i = d → 0 ≤ i → Ev (fun k => skymosaicref01_Has.l0 k l a i) (decide (a ∈ l.drop i.toNat)) := by
  intro d
  induction d with
  | zero =>
    intro i hd h0
    rw [List.drop_of_length_le (by omega)]
    refine Ev.step (f := fun _ => some false) (fun k => ?_) (Ev.now _)
    conv => lhs; unfold skymosaicref01_Has.l0
    rw [if_neg (by omega)]
  | succ d ih =>
    intro i hd h0
    have e : l.drop i.toNat = rd l i :: l.drop (i + 1).toNat := by
      rw [rdI_get l i h0 (by omega), show (i + 1).toNat = i.toNat + 1 from by omega]
      exact List.drop_eq_getElem_cons (by omega)
    by_cases h : rd l i = a
    · have : decide (a ∈ l.drop i.toNat) = true := decide_eq_true (by rw [e, h]; exact List.mem_cons_self)
      rw [this]
      refine Ev.step (f := fun _ => some true) (fun k => ?_) (Ev.now _)
      conv => lhs; unfold skymosaicref01_Has.l0
      rw [if_pos (by omega), if_pos h0, if_pos h]
    · have : decide (a ∈ l.drop i.toNat) = decide (a ∈ l.drop (i + 1).toNat) := by
        rw [e]
        exact decide_eq_decide.2 ⟨fun hm => (List.mem_cons.1 hm).resolve_left (fun e => h e.symm), fun hm => List.mem_cons_of_mem _ hm⟩
      rw [this]
      refine Ev.step (f := fun k => skymosaicref01_Has.l0 k l a (i + 1)) (fun k => ?_) (ih (i + 1) (by omega) (by omega))
      conv => lhs; unfold skymosaicref01_Has.l0
      rw [if_pos (by omega), if_pos h0, if_neg h, w64 (by omega)]
theorem has_ends (l : List Int) (hl : l.length ≤ 1000000) (a : Int) : Ev (fun k => skymosaicref01_Has.f k l a) (decide (a ∈ l)) := has_loop l hl a l.length 0 (by omega) (by omega)
def pixOf (p : S80) : List S71 := pixs p (p.f2 - p.f1).toNat
def okP (p : S80) : Prop := 0 ≤ p.f1 ∧ p.f1 < p.f2 ∧ p.f2 ≤ 16
theorem go_flat : ∀ (l : List S80) (out o : List S71), unpackGo l out = some o → (∀ p ∈ l, okP p) ∧ o = out ++ l.flatMap pixOf
  | [], out, o, h => by simp only [unpackGo, Option.some.injEq] at h; exact ⟨fun p hp => (by cases hp), (by simp [h])⟩
  | p :: ps, out, o, h => by
    simp only [unpackGo] at h
    split at h
    · cases h
    · rename_i hb
      split at h
      · cases h
      · obtain ⟨h1, h2⟩ := go_flat ps _ o h
        refine ⟨fun q hq => ?_, by rw [h2, List.flatMap_cons, List.append_assoc]; rfl⟩
        rcases List.mem_cons.1 hq with rfl | hq
        · simp only [badPiece, Bool.or_eq_true, bne_iff_ne, decide_eq_true_eq, not_or, Decidable.not_not] at hb
          unfold okP
          omega
        · exact h1 q hq
theorem rowP_ne (r : Int) (l : List S71) : 1 ≤ (rowP r l 16 0).length := by
  show 1 ≤ (rowP r l (15 + 1) 0).length
  simp only [rowP]
  rw [if_pos (by omega)]
  simp
theorem packRows_ge (xs : List S71) : ∀ (k : Nat) (r : Int), k ≤ (packRows xs k r).length
  | 0, r => Nat.zero_le _
  | k + 1, r => by
    simp only [packRows, List.length_append]
    have := rowP_ne r (rowOf xs r)
    have := packRows_ge xs k (r + 1)
    omega
theorem pack_facts (xs : List S71) (hx : xs.length = 256) (hv : xs.any badS = false) : (∀ p ∈ packL xs, okP p) ∧ xs = (packL xs).flatMap pixOf ∧ 16 ≤ (packL xs).length ∧ (packL xs).length ≤ 256 := by
  have h := unpack_tail xs hx hv 256 0 (by omega) (by omega) (by omega)
  rw [← packL_tail] at h
  obtain ⟨h1, h2⟩ := go_flat _ _ _ h
  refine ⟨h1, by simpa using h2, packRows_ge xs 16 0, ?_⟩
  exact packRows_len xs 16 0
theorem scenes_some (l : List S80) (hl : l.length ≤ 1000000) (hu : ∀ p ∈ l, uOk p.f3) : prov_Scenes.f l = some (scenesF l) := by
  have h : l.all wfScene = true := by
    refine List.all_eq_true.2 fun p hp => ?_
    have := (hu p hp).2
    unfold wfScene
    simp [Lit.wf, IntKind.min, IntKind.max, IntKind.bits, IntKind.signed]
    omega
  unfold prov_Scenes.f
  rw [if_pos ⟨h, hl⟩]
end Go.Proofs.Ytgmbjgddelcceaa.P
