import Derived.Test.YtcbkcgnigncahaaEGivenT
namespace Go.Proofs.Ytcbkcgnigncahaa.P
open Go.RowKit Go.Maps Go.Proofs.YtcbkcgnigncahaaW.PrintWords Go.Proofs.YtcbkcgnigncahaaW.PrintLast Go.Proofs.YtcbkcgnigncahaaW.PrintMore
attribute [local go_sem] max2_int min2_int max_two min_two max_three min_three max_four min_four
set_option linter.unusedVariables false
set_option linter.unusedSimpArgs false
structure Rf where
  B : List S97
  V : List S92
/-- The reference's line at g. -/
def RS (base g : Nat) (r : Rf) (W : World) : Prop :=
  base ≤ g ∧ ∃ u v, W.heap[g]? = some (.cells #[u, v] 53 (0, 0)) ∧ Kd.R k97 97 W base (fun k => k ≠ g) u r.B ∧ Kd.R k92 92 W base (fun k => k ≠ g) v r.V
theorem RS.below {base g : Nat} {r : Rf} {W W' : World} (h : RS base g r W) (hb : Below W.heap.size W W') : RS base g r W' := by
  obtain ⟨h1, u, v, h3, h4, h5⟩ := h
  exact ⟨h1, u, v, blk_below h3 hb, Kd.R_below h4 hb, Kd.R_below h5 hb⟩
theorem RS.lt {base g : Nat} {r : Rf} {W : World} (h : RS base g r W) : g < W.heap.size := by
  obtain ⟨h1, u, v, h3, _⟩ := h
  exact blk_lt h3
theorem RS.cells {base g : Nat} {r : Rf} {W : World} (h : RS base g r W) : ∃ A c A' c', W.heap[g]? = some (.cells #[.slice A r.B.length c, .slice A' r.V.length c'] 53 (0, 0)) ∧
    W.cell? ⟨g, 0, none⟩ = some (.slice A r.B.length c) ∧ W.cell? ⟨g, 1, none⟩ = some (.slice A' r.V.length c') ∧ W.frozen? ⟨g, 0, none⟩ = false ∧ W.frozen? ⟨g, 1, none⟩ = false ∧ r.B.length ≤ c ∧ r.V.length ≤ c' ∧
    Kd.R k97 97 W base (fun k => k ≠ g) (.slice A r.B.length c) r.B ∧ Kd.R k92 92 W base (fun k => k ≠ g) (.slice A' r.V.length c') r.V := by
  obtain ⟨h1, u, v, h3, h4, h5⟩ := h
  obtain ⟨A, c, rfl⟩ := Kd.R_slice h4
  obtain ⟨A', c', rfl⟩ := Kd.R_slice h5
  exact ⟨A, c, A', c', h3, blk_cell h3 0, blk_cell h3 1, blk_frozen h3 0, blk_frozen h3 1, (Kd.R_reads' h4).2.1, (Kd.R_reads' h5).2.1, h4, h5⟩
/-- What the line's own operations leave, leaves the reference's line. -/
theorem RS.keepT {base g : Nat} {r : Rf} {W W' : World} (h : RS base g r W) (hk : KeepT W W') : RS base g r W' := by
  obtain ⟨h1, u, v, h3, h4, h5⟩ := h
  exact ⟨h1, u, v, hk _ _ _ h3 (by decide) (by decide), hk.row h4 (by decide), hk.row h5 (by decide)⟩
/-- Every block that is none of the reference's stands. -/
def KeepR (W W' : World) : Prop := ∀ (i : Nat) (o : Obj), W.heap[i]? = some o → (∀ cs fr, o ≠ .cells cs 53 fr) → (∀ cs fr, o ≠ .cells cs 97 fr) → (∀ cs fr, o ≠ .cells cs 92 fr) → W'.heap[i]? = some o
theorem KeepR.refl (W : World) : KeepR W W := fun _ _ h _ _ _ => h
theorem KeepR.trans {A B C : World} (h : KeepR A B) (k : KeepR B C) : KeepR A C := fun i o hi h1 h2 h3 => k i o (h i o hi h1 h2 h3) h1 h2 h3
theorem KeepR.of_below {A B : World} (h : Below A.heap.size A B) : KeepR A B := fun i o hi _ _ _ => (h.block i (Array.getElem?_eq_some_iff.1 hi).1).trans hi
theorem KeepR.grown {A B C : World} {row : Option Nat} (h : KeepR A B) (hg : B.grownBy C row) (hr : ∀ r, row = some r → ∃ cs t, B.heap[r]? = some (Obj.cells cs t (0, 0)) ∧ (t = 53 ∨ t = 97 ∨ t = 92)) : KeepR A C := fun i o hi h1 h2 h3 => by
  have hi2 := h i o hi h1 h2 h3
  refine (hg.block i (Array.getElem?_eq_some_iff.1 hi2).1 (fun e => ?_)).trans hi2
  obtain ⟨cs, t, hc, ht⟩ := hr i e.symm
  rw [hi2] at hc
  injection hc with hc
  rcases ht with rfl | rfl | rfl
  · exact h1 _ _ hc
  · exact h2 _ _ hc
  · exact h3 _ _ hc
theorem KeepR.row {α : Type} {d : Kd α} {e base : Nat} {ok : Nat → Prop} {v : Value} {xs : List α} {A B : World} (h : KeepR A B) (hr : Kd.R d e A base ok v xs) (ht : ∀ q, q ∈ e :: d.E → q ≠ 53 ∧ q ≠ 97 ∧ q ≠ 92) : Kd.R d e B base ok v xs := by
  refine Kd.R_mono (Kd.R_move (Kd.R_bound hr) (fun k hk => ?_)) (fun k hk => hk.1)
  obtain ⟨_, _, _, q, hq, cells, hc⟩ := hk
  have hq2 := ht q hq
  rw [hc]
  refine h k _ hc ?_ ?_ ?_
  · rintro cs fr e; injection e with _ e; exact hq2.1 e
  · rintro cs fr e; injection e with _ e; exact hq2.2.1 e
  · rintro cs fr e; injection e with _ e; exact hq2.2.2 e
theorem LS.keepR {base g b n : Nat} {s : Ln} {W W' : World} (h : LS base g b n s W) (hk : KeepR W W') (hb : Below base W W') : LS base g b n s W' := by
  obtain ⟨h1, h2, ⟨v, h3, h4⟩, es, clock, h5, h6⟩ := h
  refine ⟨h1, h2, ⟨v, hk _ _ h3 ?_ ?_ ?_, hk.row h4 (by decide)⟩, es, clock, hk _ _ h5 ?_ ?_ ?_, h6⟩
  all_goals first
    | (rintro cs fr e; injection e with _ e; exact absurd e (by decide))
    | (rintro cs fr e; cases e)
/-- The block of the reference's branches. -/
def bown (g : Nat) (W : World) : Option Nat := match W.cell? ⟨g, 0, none⟩ with
  | some v => v.ownBlock
  | none => none
theorem bown_of {g : Nat} {W : World} {u v : Value} {t : TypeId} (h : W.heap[g]? = some (.cells #[u, v] t (0, 0))) : bown g W = u.ownBlock := by
  unfold bown
  have := blk_cell h 0
  rw [show W.cell? ⟨g, 0, none⟩ = some u by simpa using this]
theorem bown_same {g : Nat} {W W' : World} (h : W'.heap[g]? = W.heap[g]?) : bown g W' = bown g W := by
  unfold bown
  rw [World.cell?_of_block (w := W) (a := ⟨g, 0, none⟩) h]
/-- What is none of the reference's three blocks stands; its rows' blocks are the elder ones or new ones. -/
structure KeepRO (g : Nat) (W W' : World) : Prop where
  size : W.heap.size ≤ W'.heap.size
  block : ∀ i, i < W.heap.size → i ≠ g → some i ≠ bown g W → some i ≠ vown g W → W'.heap[i]? = W.heap[i]?
  own0 : bown g W' = bown g W ∨ ∀ k, bown g W' = some k → W.heap.size ≤ k
  own1 : vown g W' = vown g W ∨ ∀ k, vown g W' = some k → W.heap.size ≤ k
theorem KeepRO.refl (g : Nat) (W : World) : KeepRO g W W := ⟨Nat.le_refl _, fun _ _ _ _ _ => rfl, .inl rfl, .inl rfl⟩
theorem KeepRO.trans {g : Nat} {A B C : World} (h : KeepRO g A B) (k : KeepRO g B C) : KeepRO g A C := by
  refine ⟨Nat.le_trans h.size k.size, fun i hi h1 h2 h3 => ?_, ?_, ?_⟩
  · refine (k.block i (Nat.lt_of_lt_of_le hi h.size) h1 ?_ ?_).trans (h.block i hi h1 h2 h3)
    · rcases h.own0 with e | e
      · rw [e]; exact h2
      · intro e2; have := e i e2.symm; omega
    · rcases h.own1 with e | e
      · rw [e]; exact h3
      · intro e2; have := e i e2.symm; omega
  · rcases k.own0 with e | e
    · rw [e]; exact h.own0
    · exact .inr fun j hj => Nat.le_trans h.size (e j hj)
  · rcases k.own1 with e | e
    · rw [e]; exact h.own1
    · exact .inr fun j hj => Nat.le_trans h.size (e j hj)
theorem KeepRO.of_below {g : Nat} {A B : World} (h : Below A.heap.size A B) (hg : g < A.heap.size) : KeepRO g A B :=
  ⟨h.size, fun i hi _ _ _ => h.block i hi, .inl (bown_same (h.block g hg)), .inl (vown_same (h.block g hg))⟩
theorem KeepRO.grown {g : Nat} {A B C : World} {row : Option Nat} (h : KeepRO g A B) (hg : B.grownBy C row) (hgl : g < B.heap.size) (hne : some g ≠ row) (hr : row = bown g B ∨ row = vown g B ∨ row = none) : KeepRO g A C := by
  refine h.trans ⟨hg.size, fun i hi h1 h2 h3 => hg.block i hi ?_, .inl (bown_same (hg.block g hgl hne)), .inl (vown_same (hg.block g hgl hne))⟩
  rcases hr with e | e | e
  · rw [e]; exact h2
  · rw [e]; exact h3
  · rw [e]; exact fun e => by cases e
theorem KeepRO.set0 {g : Nat} {A B : World} {u v u1 : Value} {t : TypeId} (h : KeepRO g A B) (hg : B.heap[g]? = some (.cells #[u, v] t (0, 0))) (hv : u1.ownBlock = bown g A ∨ ∀ k, u1.ownBlock = some k → A.heap.size ≤ k) : KeepRO g A (B.setCell ⟨g, 0, none⟩ u1) := by
  have hp := blk_put hg 0 u1 rfl
  refine ⟨by simpa [World.setCell] using h.size, fun i hi h1 h2 h3 => (Below.heap_setCell B ⟨g, 0, none⟩ u1 i h1).trans (h.block i hi h1 h2 h3), ?_, ?_⟩
  · rw [show bown g (B.setCell ⟨g, 0, none⟩ u1) = u1.ownBlock from bown_of hp]
    exact hv
  · rw [show vown g (B.setCell ⟨g, 0, none⟩ u1) = vown g B from (vown_of hp).trans (vown_of hg).symm]
    exact h.own1
theorem KeepRO.set1 {g : Nat} {A B : World} {u v v1 : Value} {t : TypeId} (h : KeepRO g A B) (hg : B.heap[g]? = some (.cells #[u, v] t (0, 0))) (hv : v1.ownBlock = vown g A ∨ ∀ k, v1.ownBlock = some k → A.heap.size ≤ k) : KeepRO g A (B.setCell ⟨g, 1, none⟩ v1) := by
  have hp := blk_put hg 1 v1 rfl
  refine ⟨by simpa [World.setCell] using h.size, fun i hi h1 h2 h3 => (Below.heap_setCell B ⟨g, 1, none⟩ v1 i h1).trans (h.block i hi h1 h2 h3), ?_, ?_⟩
  · rw [show bown g (B.setCell ⟨g, 1, none⟩ v1) = bown g B from (bown_of hp).trans (bown_of hg).symm]
    exact h.own0
  · rw [show vown g (B.setCell ⟨g, 1, none⟩ v1) = v1.ownBlock from vown_of hp]
    exact hv
theorem KeepRO.toR {g base : Nat} {r : Rf} {A B : World} (h : KeepRO g A B) (hs : RS base g r A) : KeepR A B := fun i o hi n1 n2 n3 => by
  obtain ⟨_, u, v, h3, h4, h5⟩ := hs
  refine (h.block i (blk_lt hi) ?_ ?_ ?_).trans hi
  · rintro rfl
    rw [h3] at hi
    exact n1 _ _ (Option.some.inj hi).symm
  · rw [bown_of h3]
    intro e
    obtain ⟨cells, hc⟩ := Kd.R_typed h4 i e.symm
    rw [hc] at hi
    exact n2 _ _ (Option.some.inj hi).symm
  · rw [vown_of h3]
    intro e
    obtain ⟨cells, hc⟩ := Kd.R_typed h5 i e.symm
    rw [hc] at hi
    exact n3 _ _ (Option.some.inj hi).symm
theorem toList_inj {a b : ByteArray} (h : a.toList = b.toList) : a = b := by
  rw [ByteArray.toList_eq, ByteArray.toList_eq] at h
  exact ByteArray.ext (Array.toList_inj.1 h)
theorem ne_toList {a b : ByteArray} (h : a ≠ b) : (a.toList == b.toList) = false := by
  rw [beq_eq_false_iff_ne]
  exact fun e => h (toList_inj e)
def findR (B : List S97) (name : ByteArray) : Int := match B.findIdx? (fun b => decide (b.f0 = name)) with
  | some i => (i : Int)
  | none => -1
theorem findR_at {B : List S97} {name : ByteArray} (i : Nat) (hi : i < B.length) (h : (rd_T97 B (i : Int)).f0 = name) (hb : ∀ j : Nat, j < i → (rd_T97 B (j : Int)).f0 ≠ name) : findR B name = (i : Int) := by
  have hrd : ∀ j : Nat, (hj : j < B.length) → rd_T97 B (j : Int) = B[j] := fun j hj => by
    unfold rd_T97
    rw [Int.toNat_natCast, List.getD_eq_getElem?_getD, List.getElem?_eq_getElem hj]
    rfl
  unfold findR
  rw [show B.findIdx? (fun b => decide (b.f0 = name)) = some i from ?_]
  rw [List.findIdx?_eq_some_iff_getElem]
  refine ⟨hi, ?_, fun j hj => ?_⟩
  · rw [← hrd i hi]; simpa using h
  · rw [← hrd j (by omega)]; simpa using hb j hj
theorem findR_none {B : List S97} {name : ByteArray} (hb : ∀ j : Nat, j < B.length → (rd_T97 B (j : Int)).f0 ≠ name) : findR B name = -1 := by
  have hrd : ∀ j : Nat, (hj : j < B.length) → rd_T97 B (j : Int) = B[j] := fun j hj => by
    unfold rd_T97
    rw [Int.toNat_natCast, List.getD_eq_getElem?_getD, List.getElem?_eq_getElem hj]
    rfl
  unfold findR
  rw [show B.findIdx? (fun b => decide (b.f0 = name)) = none from ?_]
  rw [List.findIdx?_eq_none_iff]
  intro b hbm
  obtain ⟨j, hj, rfl⟩ := List.mem_iff_getElem.1 hbm
  have := hb j hj
  rw [hrd j hj] at this
  simpa using this
/-- The last version of a branch, or -1. -/
def lastR (V : List S92) (name : ByteArray) : Nat → Int
  | 0 => -1
  | k + 1 => if (rd_T92 V (k : Int)).f2 = name then (k : Int) else lastR V name k
def firstR (r : Rf) (name : ByteArray) : Int :=
  if 0 ≤ lastR r.V name r.V.length then lastR r.V name r.V.length
  else if findR r.B name < 0 then -1 else (rd_T97 r.B (findR r.B name)).f1
set_option maxHeartbeats 4000000 in
set_option maxRecDepth 100000 in
theorem find_calls (base g : Nat) (r : Rf) (name : ByteArray) (w : World) (h : RS base g r w) (hl : r.B.length ≤ 2000) :
    Calls Try.prog 56 #[.pointer (some ⟨g, 0, none⟩), .string name] w fun e w' => e = .returned (.int .i64 (findR r.B name)) ∧ w = w' := by
  obtain ⟨A, c, A', c', hg, c0, c1, z0, z1, hc, hc', hB, hV⟩ := h.cells
  have HB := Aside0.mk hB
  clear hg hB hV z0 z1 h c1 hc'
  go_enter Try.func56, Try.ntmps56
  go_wp2_with fail
  go_loopw [5] (fun v5 wr => ∃ i : Nat, v5 = .int .i64 i ∧ Aside0 (wr = w) ∧ Aside0 (i ≤ r.B.length) ∧ Aside0 (∀ j : Nat, j < i → (rd_T97 r.B (j : Int)).f0 ≠ name)) (fun v _ => r.B.length - (intOf v).toNat)
  case atStart => exact ⟨0, rfl, ⟨rfl⟩, ⟨Nat.zero_le _⟩, ⟨fun j hj => absurd hj (Nat.not_lt_zero _)⟩⟩
  case round =>
    obtain ⟨i, rfl, ⟨rfl⟩, HI, HJ⟩ := hrel
    have hi := HI.out
    by_cases hlt : i < r.B.length
    · obtain ⟨ad, e9, y0, y1⟩ := at_T97 (Kd.R_reads' HB.out).2.2 (i : Int) (by omega) (by omega)
      obtain rfl := e9
      rw [Int.toNat_natCast] at y0 y1
      by_cases he : (rd_T97 r.B (i : Int)).f0 = name
      · have hf := findR_at i hlt he HJ.out
        have HF := Aside0.mk hf
        rw [he] at y0
        clear hf he
        go_wp2
        go_returns
        rw [HF.out]
        exact ⟨rfl, rfl⟩
      · obtain ⟨nm, hnm⟩ : ∃ nm, (rd_T97 r.B (i : Int)).f0 = nm := ⟨_, rfl⟩
        have HNM := Aside0.mk hnm
        rw [hnm] at y0 he
        have he' : (nm.toList == name.toList) = false := ne_toList he
        have HE := Aside0.mk he
        clear hnm he
        go_wp2
        go_roundw
        case rel =>
          refine ⟨i + 1, by simp, ⟨by trivial⟩, ⟨hlt⟩, ⟨fun j hj => ?_⟩⟩
          by_cases h : j < i
          · exact HJ.out j h
          · obtain rfl : j = i := by omega
            rw [HNM.out]; exact HE.out
        case measure => simp [intOf]; omega
    · have HF := Aside0.mk (findR_none (B := r.B) (name := name) (fun j hj => HJ.out j (by omega)))
      go_wp2
      go_returns
      rw [HF.out]
      exact ⟨rfl, rfl⟩
theorem lastR_stop {V : List S92} {name : ByteArray} (n : Nat) (i : Nat) (hi : i < n) (h : (rd_T92 V (i : Int)).f2 = name) (hb : ∀ j : Nat, i < j → j < n → (rd_T92 V (j : Int)).f2 ≠ name) : lastR V name n = (i : Int) := by
  induction n with
  | zero => omega
  | succ n ih =>
    simp only [lastR]
    by_cases e : i = n
    · subst e
      rw [if_pos h]
    · rw [if_neg (hb n (by omega) (by omega))]
      exact ih (by omega) (fun j h1 h2 => hb j h1 (by omega))
theorem lastR_none {V : List S92} {name : ByteArray} (n : Nat) (hb : ∀ j : Nat, j < n → (rd_T92 V (j : Int)).f2 ≠ name) : lastR V name n = -1 := by
  induction n with
  | zero => rfl
  | succ n ih =>
    simp only [lastR]
    rw [if_neg (hb n (by omega))]
    exact ih (fun j h => hb j (by omega))
set_option maxHeartbeats 4000000 in
set_option maxRecDepth 100000 in
theorem first_calls (base g : Nat) (r : Rf) (name : ByteArray) (w : World) (h : RS base g r w) (hl : r.B.length ≤ 2000) (hv : r.V.length ≤ 2000) (hf : findR r.B name < r.B.length) :
    Calls Try.prog 57 #[.pointer (some ⟨g, 0, none⟩), .string name] w fun e w' => e = .returned (.int .i64 (firstR r name)) ∧ w = w' := by
  have HS := Aside0.mk h
  obtain ⟨A, c, A', c', hg, c0, c1, z0, z1, hc, hc', hB, hV⟩ := h.cells
  have HB := Aside0.mk hB
  have HV := Aside0.mk hV
  clear hg hB hV z0 z1 h
  go_enter Try.func57, Try.ntmps57
  go_wp2_with fail
  go_loopw [5] (fun v5 wr => ∃ i : Int, v5 = .int .i64 i ∧ Aside0 (wr = w) ∧ Aside0 (-1 ≤ i ∧ i < r.V.length) ∧ Aside0 (∀ j : Nat, i < j → j < r.V.length → (rd_T92 r.V (j : Int)).f2 ≠ name)) (fun v _ => (intOf v + 1).toNat)
  case atStart => exact ⟨(r.V.length : Int) - 1, by first | rfl | simp, ⟨rfl⟩, ⟨by omega⟩, ⟨fun j h1 h2 => by omega⟩⟩
  case round =>
    obtain ⟨i, rfl, ⟨rfl⟩, HI, HJ⟩ := hrel
    have hi := HI.out
    by_cases hlt : 0 ≤ i
    · obtain ⟨ad, e9, y0, y1, y2, y3, y4, y5, y6, y7⟩ := at_T92 (Kd.R_reads' HV.out).2.2 i hlt (by omega)
      obtain rfl := e9
      clear y0 y1 y3 y4 y5 y6 y7
      have hi1 := hi.2
      by_cases he : (rd_T92 r.V i).f2 = name
      · have hls : lastR r.V name r.V.length = i := by
          have := lastR_stop (V := r.V) (name := name) r.V.length i.toNat (by omega) (by rw [show ((i.toNat : Nat) : Int) = i by omega]; exact he) (fun j h1 h2 => HJ.out j (by omega) h2)
          omega
        have HF := Aside0.mk (show firstR r name = i by unfold firstR; rw [hls, if_pos hlt])
        rw [he] at y2
        clear hls he
        go_wp2
        go_returns
        rw [HF.out]
        exact ⟨rfl, rfl⟩
      · obtain ⟨nm, hnm⟩ : ∃ nm, (rd_T92 r.V i).f2 = nm := ⟨_, rfl⟩
        have HNM := Aside0.mk hnm
        rw [hnm] at y2 he
        have he' : (nm.toList == name.toList) = false := ne_toList he
        have HE := Aside0.mk he
        clear hnm he
        go_wp2
        go_roundw
        case rel =>
          refine ⟨i - 1, by first | rfl | simp, ⟨by trivial⟩, ⟨by omega⟩, ⟨fun j h1 h2 => ?_⟩⟩
          by_cases h : i < j
          · exact HJ.out j h h2
          · obtain rfl : (j : Int) = i := by omega
            rw [HNM.out]; exact HE.out
        case measure => simp [intOf]; omega
    · have hls : lastR r.V name r.V.length = -1 := lastR_none _ (fun j hj => HJ.out j (by omega) hj)
      obtain ⟨f, hff⟩ : ∃ f, findR r.B name = f := ⟨_, rfl⟩
      have HFF := Aside0.mk hff
      rw [hff] at hf
      by_cases hneg : f < 0
      · have HF := Aside0.mk (show firstR r name = -1 by unfold firstR; rw [hls, if_neg (by omega), hff, if_pos hneg])
        clear hls hff
        go_wp2_with (first
          | (go_at_call 56; (with_reducible refine (find_calls base g r name wr HS.out hl).mono ?_); rintro e w3 ⟨rfl, rfl⟩; rw [HFF.out])
          | fail)
        go_returns
        rw [HF.out]
        exact ⟨rfl, rfl⟩
      · have HF := Aside0.mk (show firstR r name = (rd_T97 r.B f).f1 by unfold firstR; rw [hls, if_neg (by omega), hff, if_neg hneg])
        obtain ⟨ad, e9, y0, y1⟩ := at_T97 (Kd.R_reads' HB.out).2.2 f (by omega) hf
        obtain rfl := e9
        clear hls hff y0
        go_wp2_with (first
          | (go_at_call 56; (with_reducible refine (find_calls base g r name wr HS.out hl).mono ?_); rintro e w3 ⟨rfl, rfl⟩; rw [HFF.out])
          | fail)
        go_returns
        rw [HF.out]
        exact ⟨rfl, rfl⟩
end Go.Proofs.Ytcbkcgnigncahaa.P
