import Derived.Test.YtcbkcgnigncahaaEPx0
import Derived.Test.YtcbkcgnigncahaaEPx1
import Derived.Maps.OwnSet
import Derived.Maps.Range
import Derived.Carry
namespace Go.Proofs.Ytcbkcgnigncahaa.P
open Go.RowKit Go.Maps Go.Proofs.YtcbkcgnigncahaaW.PrintWords Go.Proofs.YtcbkcgnigncahaaW.PrintLast Go.Proofs.YtcbkcgnigncahaaW.PrintMore
attribute [local go_sem] max2_int min2_int max_two min_two max_three min_three max_four min_four
set_option linter.unusedVariables false
set_option linter.unusedSimpArgs false
/-- How a branch of the map reads: its base and its last version. -/
def lnD (b l : Int) : DataW Unit := .agg [.lit (.int .i64 b), .lit (.int .i64 l)]
def lineR (v : Value) : Option (DataW Unit × List MemPlace) := match v with
  | .agg cs => match (cs[0]? : Option Value), (cs[1]? : Option Value) with
    | some (Value.int k b), some (Value.int k' l) => if cs.size = 2 ∧ k = .i64 ∧ k' = .i64 then some (lnD b l, []) else none
    | _, _ => none
  | _ => none
theorem lineR_mk (b l : Int) : lineR (.agg #[.int .i64 b, .int .i64 l]) = some (lnD b l, []) := by
  simp [lineR]
theorem lineR_inv {v : Value} {z : DataW Unit × List MemPlace} (h : lineR v = some z) : ∃ b l, v = .agg #[.int .i64 b, .int .i64 l] ∧ z = (lnD b l, []) := by
  unfold lineR at h
  cases v with
  | agg cs =>
    simp only at h
    split at h
    · rename_i k b k' l h0 h1
      split at h
      · rename_i hc
        obtain ⟨hs, rfl, rfl⟩ := hc
        refine ⟨b, l, ?_, (Option.some.inj h).symm⟩
        congr 1
        refine Array.ext (by simpa using hs) ?_
        intro i hi hi2
        have hi3 : i < 2 := by omega
        match i, hi3 with
        | 0, _ => have := (Array.getElem?_eq_some_iff.1 h0).2; simpa using this
        | 1, _ => have := (Array.getElem?_eq_some_iff.1 h1).2; simpa using this
      · cases h
    · cases h
  | _ => cases h
structure Ln where
  D : DataW Unit
  V : List S43
def keyB (s : ByteArray) : Lit := .string s.data.toList
def lkD (d : DataW Unit) : Int × Int := match d with
  | .agg [.lit (.int .i64 b), .lit (.int .i64 l)] => (b, l)
  | _ => (0, 0)
/-- Base and last version of a branch ((0, 0): there is none). -/
def lkp (D : DataW Unit) (s : ByteArray) : Int × Int := lkD (D.atKey (keyB s) (lnD 0 0))
def hasB (D : DataW Unit) (s : ByteArray) : Bool := Maps.has D (keyB s)
/-- The line at g, whose map is block b. -/
def LS (base g b n : Nat) (s : Ln) (W : World) : Prop :=
  base ≤ g ∧ base ≤ b ∧ (∃ v, W.heap[g]? = some (.cells #[.map (some b), v] 78 (0, 0)) ∧ Kd.R k43 43 W base (fun k => k ≠ g) v s.V) ∧ W.ownsMap Try.prog 9 lineR b n s.D
theorem LS.below {base g b n : Nat} {s : Ln} {W W' : World} (h : LS base g b n s W) (hb : Below W.heap.size W W') : LS base g b n s W' := by
  obtain ⟨h1, h2, ⟨v, h3, h4⟩, h5⟩ := h
  exact ⟨h1, h2, ⟨v, blk_below h3 hb, Kd.R_below h4 hb⟩, h5.kept (row := none) ⟨hb.os, hb.tape, hb.output, hb.size, fun k hk _ => hb.block k hk⟩ (by simp)⟩
theorem LS.drawn {base g b n : Nat} {s : Ln} {W : World} (h : LS base g b n s W) (m : Nat) : LS base g b n s (W.drewN m) := h.below (pw_below_drewN (Below.refl _ _) m)
theorem LS.lt {base g b n : Nat} {s : Ln} {W : World} (h : LS base g b n s W) : g < W.heap.size := by
  obtain ⟨_, _, ⟨v, h3, _⟩, _⟩ := h
  exact blk_lt h3
theorem LS.ltb {base g b n : Nat} {s : Ln} {W : World} (h : LS base g b n s W) : b < W.heap.size := h.2.2.2.lt
theorem LS.ne {base g b n : Nat} {s : Ln} {W : World} (h : LS base g b n s W) : g ≠ b := by
  obtain ⟨_, _, ⟨v, h3, _⟩, ⟨es, clock, hb, _⟩⟩ := h
  rintro rfl
  rw [hb] at h3
  injection h3 with h3
  cases h3
theorem LS.mono {base base' g b n : Nat} {s : Ln} {W : World} (h : LS base g b n s W) (hb : base' ≤ base) : LS base' g b n s W := by
  obtain ⟨h1, h2, ⟨v, h3, h4⟩, h5⟩ := h
  exact ⟨Nat.le_trans hb h1, Nat.le_trans hb h2, ⟨v, h3, Kd.R_lower h4 hb⟩, h5⟩
/-- Every block of cells that is neither a line's struct nor a row of versions stands. -/
def KeepT (W W' : World) : Prop := ∀ (i : Nat) (cs : Array Value) (t : TypeId), W.heap[i]? = some (Obj.cells cs t (0, 0)) → t ≠ 78 → t ≠ 43 → W'.heap[i]? = some (Obj.cells cs t (0, 0))
theorem KeepT.refl (W : World) : KeepT W W := fun _ _ _ h _ _ => h
theorem KeepT.trans {A B C : World} (h : KeepT A B) (k : KeepT B C) : KeepT A C := fun i cs t hi h1 h2 => k i cs t (h i cs t hi h1 h2) h1 h2
theorem KeepT.of_below {A B : World} (h : Below A.heap.size A B) : KeepT A B := fun i cs t hi _ _ => blk_below hi h
theorem KeepT.grown {A B C : World} {row : Option Nat} (h : KeepT A B) (hg : B.grownBy C row) (hr : ∀ r, row = some r → (∃ cs t, B.heap[r]? = some (Obj.cells cs t (0, 0)) ∧ (t = 78 ∨ t = 43)) ∨ (∃ es clock, B.heap[r]? = some (Obj.map es clock))) : KeepT A C := fun i cs t hi h1 h2 => by
  have hi2 := h i cs t hi h1 h2
  refine (hg.block i (blk_lt hi2) (fun e => ?_)).trans hi2
  rcases hr i e.symm with ⟨cs', t', hc, ht⟩ | ⟨es, clock, ho⟩
  · rw [hi2] at hc
    injection hc with hc
    injection hc with _ hc
    subst hc
    rcases ht with ht | ht
    · exact h1 ht
    · exact h2 ht
  · rw [hi2] at ho
    cases ho
theorem KeepT.set_new {A B : World} (h : KeepT A B) {p : Addr} (hp : A.heap.size ≤ p.block) (u : Value) : KeepT A (B.setCell p u) := fun i cs t hi h1 h2 => by
  have := blk_lt hi
  exact (Below.heap_setCell B p u i (by omega)).trans (h i cs t hi h1 h2)
theorem KeepT.map {A B C : World} {b n : Nat} {D : DataW Unit} (h : KeepT A B) (ho : B.ownsMap Try.prog 9 lineR b n D) (hg : B.grownBy C (some b)) : KeepT A C := by
  refine h.grown hg (fun r hr => .inr ?_)
  obtain rfl := Option.some.inj hr
  obtain ⟨es, clock, hb, _⟩ := ho
  exact ⟨_, _, hb⟩
theorem KeepT.row {α : Type} {d : Kd α} {e base : Nat} {ok : Nat → Prop} {v : Value} {xs : List α} {A B : World} (h : KeepT A B) (hr : Kd.R d e A base ok v xs) (ht : ∀ q, q ∈ e :: d.E → q ≠ 78 ∧ q ≠ 43) : Kd.R d e B base ok v xs := by
  refine Kd.R_mono (Kd.R_move (Kd.R_bound hr) (fun k hk => ?_)) (fun k hk => hk.1)
  obtain ⟨_, _, _, q, hq, cells, hc⟩ := hk
  rw [hc]
  exact h k cells q hc (ht q hq).1 (ht q hq).2
/-- The block of the versions of the line at g. -/
def vown (g : Nat) (W : World) : Option Nat := match W.cell? ⟨g, 1, none⟩ with
  | some v => v.ownBlock
  | none => none
theorem vown_of {g : Nat} {W : World} {a v : Value} {t : TypeId} (h : W.heap[g]? = some (.cells #[a, v] t (0, 0))) : vown g W = v.ownBlock := by
  unfold vown
  have := blk_cell h 1
  rw [show W.cell? ⟨g, 1, none⟩ = some v by simpa using this]
theorem vown_same {g : Nat} {W W' : World} (h : W'.heap[g]? = W.heap[g]?) : vown g W' = vown g W := by
  unfold vown
  rw [World.cell?_of_block (w := W) (a := ⟨g, 1, none⟩) h]
/-- What is none of the line's three blocks stands; the versions' block is the elder one or a new one. -/
structure KeepO (g b : Nat) (W W' : World) : Prop where
  size : W.heap.size ≤ W'.heap.size
  block : ∀ i, i < W.heap.size → i ≠ g → i ≠ b → some i ≠ vown g W → W'.heap[i]? = W.heap[i]?
  own : vown g W' = vown g W ∨ ∃ k, vown g W' = some k ∧ W.heap.size ≤ k
theorem KeepO.refl (g b : Nat) (W : World) : KeepO g b W W := ⟨Nat.le_refl _, fun _ _ _ _ _ => rfl, .inl rfl⟩
theorem KeepO.trans {g b : Nat} {A B C : World} (h : KeepO g b A B) (k : KeepO g b B C) : KeepO g b A C := by
  refine ⟨Nat.le_trans h.size k.size, fun i hi h1 h2 h3 => ?_, ?_⟩
  · refine (k.block i (Nat.lt_of_lt_of_le hi h.size) h1 h2 ?_).trans (h.block i hi h1 h2 h3)
    rcases h.own with e | ⟨j, e, hj⟩
    · rw [e]; exact h3
    · rw [e]; intro e2; have := Option.some.inj e2; omega
  · rcases k.own with e | ⟨j, e, hj⟩
    · rw [e]; exact h.own
    · exact .inr ⟨j, e, Nat.le_trans h.size hj⟩
theorem KeepO.of_below {g b : Nat} {A B : World} (h : Below A.heap.size A B) (hg : g < A.heap.size) : KeepO g b A B :=
  ⟨h.size, fun i hi _ _ _ => h.block i hi, .inl (vown_same (h.block g hg))⟩
theorem KeepO.grown {g b : Nat} {A B C : World} {row : Option Nat} (h : KeepO g b A B) (hg : B.grownBy C row) (hgl : g < B.heap.size) (hne : some g ≠ row) (hr : row = some b ∨ row = vown g B ∨ row = none) : KeepO g b A C := by
  refine h.trans ⟨hg.size, fun i hi h1 h2 h3 => hg.block i hi ?_, .inl (vown_same (hg.block g hgl hne))⟩
  rcases hr with e | e | e
  · rw [e]; intro e2; exact h2 (Option.some.inj e2)
  · rw [e]; exact h3
  · rw [e]; exact fun e => by cases e
theorem KeepO.set_new {g b : Nat} {A B : World} (h : KeepO g b A B) {p : Addr} (hp : A.heap.size ≤ p.block) (hpg : p.block ≠ g) (u : Value) : KeepO g b A (B.setCell p u) := by
  refine ⟨by simpa [World.setCell] using h.size, fun i hi h1 h2 h3 => (Below.heap_setCell B p u i (by omega)).trans (h.block i hi h1 h2 h3), ?_⟩
  rw [vown_same (Below.heap_setCell B p u g (Ne.symm hpg))]
  exact h.own
theorem KeepO.set_g {g b : Nat} {A B : World} {a v v1 : Value} {t : TypeId} (h : KeepO g b A B) (hg : B.heap[g]? = some (.cells #[a, v] t (0, 0))) (hv : v1.ownBlock = vown g A ∨ ∃ k, v1.ownBlock = some k ∧ A.heap.size ≤ k) : KeepO g b A (B.setCell ⟨g, 1, none⟩ v1) := by
  refine ⟨by simpa [World.setCell] using h.size, fun i hi h1 h2 h3 => (Below.heap_setCell B ⟨g, 1, none⟩ v1 i h1).trans (h.block i hi h1 h2 h3), ?_⟩
  have := vown_of (blk_put hg 1 v1 rfl)
  rw [show vown g (B.setCell ⟨g, 1, none⟩ v1) = v1.ownBlock from this]
  exact hv
theorem KeepO.toT {g b base n : Nat} {s : Ln} {A B : World} (h : KeepO g b A B) (hs : LS base g b n s A) : KeepT A B := fun i cs t hi h1 h2 => by
  obtain ⟨_, _, ⟨v, h3, h4⟩, es, clock, h5, _⟩ := hs
  refine (h.block i (blk_lt hi) ?_ ?_ ?_).trans hi
  · rintro rfl
    rw [h3] at hi
    injection hi with hi
    injection hi with _ hi
    exact h1 hi.symm
  · rintro rfl
    rw [h5] at hi
    cases hi
  · rw [vown_of h3]
    intro e
    obtain ⟨cells, hc⟩ := Kd.R_typed h4 i e.symm
    rw [hc] at hi
    injection hi with hi
    injection hi with _ hi
    exact h2 hi.symm
theorem keyOf_str {P : Program} {k : TypeId} (hk : P.underlying k = some .string) {s : ByteArray} (hs : s.size ≤ maxLen) : keyOf P k (.string s) = some (keyB s) := by
  simp [keyOf, hk, mapKey, hs, keyB]
theorem zero80 (w : World) : (zeroValue 80).run Try.prog w = .ok (.agg #[.int .i64 0, .int .i64 0]) w := by kernel_rfl
section
variable (w : World) {ops : Array Oper} {rest : List Oper} {o : Oper} {a : Act} {Q : Exit → Act → World → Prop}
/-- 'x, is := l.branches[name]'. -/
theorem lookup_line (hg : o.guard = none) (m x : Operand) (hop : o.op = Op.lookup 76 m x true) (b n : Nat) (D : DataW Unit) (s : ByteArray)
    (hm : a.eval m = .map (some b)) (hx : a.eval x = .string s) (hown : w.ownsMap Try.prog 9 lineR b n D) (hs : s.size ≤ maxLen)
    (hK : wpList Try.prog ops Q rest (a.put o.dst (.tuple #[.agg #[.int .i64 (lkp D s).1, .int .i64 (lkp D s).2], .bool (hasB D s)])) w) :
    wpList Try.prog ops Q (o :: rest) a w := by
  refine wpList_lookup_own_ok w hg m x 76 hop 9 80 (string_keyed Try.underlying9) Try.underlying76 lineR (zero80 w) (lnD 0 0) [] (lineR_mk 0 0) b n D hm hown (.string s) (keyB s) hx (keyOf_str Try.underlying9 hs) ?_
  intro v ps hv
  obtain ⟨c, d, rfl, hz⟩ := lineR_inv hv
  have h1 : D.atKey (keyB s) (lnD 0 0) = lnD c d := congrArg Prod.fst hz
  have h2 : lkp D s = (c, d) := by unfold lkp; rw [h1]; rfl
  rw [h2] at hK
  exact hK
/-- 'l.branches[name] = x'. -/
theorem update_line (hg : o.guard = none) (m x v : Operand) (hop : o.op = Op.mapUpdate 76 m x v) (b n : Nat) (D : DataW Unit) (s : ByteArray) (c d : Int)
    (hm : a.eval m = .map (some b)) (hx : a.eval x = .string s) (hv : a.eval v = .agg #[.int .i64 c, .int .i64 d]) (hown : w.ownsMap Try.prog 9 lineR b n D) (hs : s.size ≤ maxLen) (hn : n < maxLen)
    (hK : ∀ w', w'.ownsMap Try.prog 9 lineR b (n + 1) (D.put (keyB s) (lnD c d)) → w.grownBy w' (some b) → wpList Try.prog ops Q rest (a.put o.dst undef) w') :
    wpList Try.prog ops Q (o :: rest) a w :=
  wpList_mapUpdate_own w hg m x v 76 hop 9 80 (string_keyed Try.underlying9) Try.underlying76 lineR b n D hm hown hn (.string s) _ (keyB s) hx hv (keyOf_str Try.underlying9 hs) (lnD c d) [] (lineR_mk c d) hK
end
def Ln0 : Ln := ⟨.map [], []⟩
set_option maxHeartbeats 1000000 in
theorem new_calls (w : World) : Calls Try.prog 9 #[] w fun e w' => e = .returned (.pointer (some ⟨w.heap.size + 1, 0, none⟩)) ∧ LS w.heap.size (w.heap.size + 1) w.heap.size 0 Ln0 w' ∧ Below w.heap.size w w' := by
  have hmm := @run_makeMap Try.prog
  have hu78 := Try.underlying78
  go_enter Try.func9, Try.ntmps9
  go_wp2
  go_ret
  have hm := World.ownsMap_made w Try.prog 9 lineR
  refine ⟨by simp, ⟨by omega, Nat.le_refl _, ⟨.slice none 0 0, ?_, Kd.R_nil _ _ _ _ _⟩, hm.alloc _⟩, below_alloc (below_alloc (Below.refl _ _) _) _⟩
  have := blk_new (w.alloc (.map #[] 0)) (.cells #[.map (some w.heap.size), .slice none 0 0] 78)
  simpa using this
def existsB (s : Ln) (id : Int) : Bool := decide (0 ≤ id) && decide (id < s.V.length)
set_option maxHeartbeats 1000000 in
theorem exists_calls (base g b n : Nat) (s : Ln) (id : Int) (w : World) (hs : LS base g b n s w) :
    Calls Try.prog 41 #[.pointer (some ⟨g, 0, none⟩), .int .i64 id] w fun e w' => e = .returned (.bool (existsB s id)) ∧ w = w' := by
  obtain ⟨h1, h2, ⟨v, h3, h4⟩, h5⟩ := hs
  obtain ⟨A, c, rfl⟩ := Kd.R_slice h4
  have c1 : w.cell? ⟨g, 1, none⟩ = some (.slice A s.V.length c) := blk_cell h3 1
  clear h3 h4 h5
  by_cases h0 : 0 ≤ id
  · have hf : existsB s id = decide (id < s.V.length) := by simp [existsB, h0]
    rw [hf]
    clear hf
    go_enter Try.func41, Try.ntmps41
    go_wp2
    go_ret
    exact ⟨rfl, rfl⟩
  · have hf : existsB s id = false := by simp [existsB, h0]
    rw [hf]
    clear hf
    go_enter Try.func41, Try.ntmps41
    go_wp2
    go_ret
    exact ⟨rfl, rfl⟩
def tickB (n : Int) : Bool := decide (0 ≤ n) && decide (n ≤ 1099511627776)
theorem tick_calls (n : Int) (w : World) : Calls Try.prog 81 #[.int .i64 n] w fun e w' => e = .returned (.bool (tickB n)) ∧ w = w' := by
  by_cases h0 : 0 ≤ n
  · have hf : tickB n = decide (n ≤ 1099511627776) := by simp [tickB, h0]
    rw [hf]
    clear hf
    go_enter Try.func81, Try.ntmps81
    go_wp2
    go_ret
    exact ⟨rfl, rfl⟩
  · have hf : tickB n = false := by simp [tickB, h0]
    rw [hf]
    clear hf
    go_enter Try.func81, Try.ntmps81
    go_wp2
    go_ret
    exact ⟨rfl, rfl⟩
def rangeB (t k r : Int) : Bool := tickB t && (tickB k && decide (-2 ≤ r))
set_option maxHeartbeats 1000000 in
theorem inrange_calls (t k r : Int) (w : World) : Calls Try.prog 43 #[.int .i64 t, .int .i64 k, .int .i64 r] w fun e w' => e = .returned (.bool (rangeB t k r)) ∧ w = w' := by
  cases h1 : tickB t with
  | true =>
    cases h2 : tickB k with
    | true =>
      have hf : rangeB t k r = decide (-2 ≤ r) := by simp [rangeB, h1, h2]
      rw [hf]
      clear hf
      go_enter Try.func43, Try.ntmps43
      go_wp2_with (first | (go_at_call 81; (with_reducible refine (tick_calls t _).mono ?_); rintro e w' ⟨rfl, rfl⟩) | (go_at_call 81; (with_reducible refine (tick_calls k _).mono ?_); rintro e w' ⟨rfl, rfl⟩))
      go_ret
      exact ⟨rfl, rfl⟩
    | false =>
      have hf : rangeB t k r = false := by simp [rangeB, h1, h2]
      rw [hf]
      clear hf
      go_enter Try.func43, Try.ntmps43
      go_wp2_with (first | (go_at_call 81; (with_reducible refine (tick_calls t _).mono ?_); rintro e w' ⟨rfl, rfl⟩) | (go_at_call 81; (with_reducible refine (tick_calls k _).mono ?_); rintro e w' ⟨rfl, rfl⟩))
      go_ret
      exact ⟨rfl, rfl⟩
  | false =>
    have hf : rangeB t k r = false := by simp [rangeB, h1]
    rw [hf]
    clear hf
    go_enter Try.func43, Try.ntmps43
    go_wp2_with (first | (go_at_call 81; (with_reducible refine (tick_calls t _).mono ?_); rintro e w' ⟨rfl, rfl⟩) | (go_at_call 81; (with_reducible refine (tick_calls k _).mono ?_); rintro e w' ⟨rfl, rfl⟩))
    go_ret
    exact ⟨rfl, rfl⟩
end Go.Proofs.Ytcbkcgnigncahaa.P
