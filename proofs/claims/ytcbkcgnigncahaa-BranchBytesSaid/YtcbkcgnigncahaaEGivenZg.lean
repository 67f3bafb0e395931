import Derived.Test.YtcbkcgnigncahaaEGivenA
import Derived.Test.YtcbkcgnigncahaaEGivenZe
import Derived.Maps.RangeWalk
namespace Go.Proofs.Ytcbkcgnigncahaa.P
open Go.RowKit Go.Maps Go.Proofs.YtcbkcgnigncahaaW.PrintWords Go.Proofs.YtcbkcgnigncahaaW.PrintLast Go.Proofs.YtcbkcgnigncahaaW.PrintMore
set_option linter.unusedVariables false
set_option linter.unusedSimpArgs false
theorem R_only43 {w : World} {base : Nat} {ok : Nat → Prop} {v : Value} {xs : List S43} (h : Kd.R k43 43 w base ok v xs) : Kd.R k43 43 w base (fun k => ok k ∧ v.ownBlock = some k) v xs :=
  ⟨fun k hk => ⟨h.1 k hk, hk⟩, h.2.imp_ (fun _ _ hp => by obtain rfl := k43_openM hp; exact k43_mkM _ _ _ _)⟩
/-- The blocks of two lines are other blocks. -/
structure Apart (g b g2 b2 : Nat) (W : World) : Prop where
  gg : g ≠ g2
  gb : g ≠ b2
  bg : b ≠ g2
  bb : b ≠ b2
  vv : ∀ k, vown g W = some k → vown g2 W ≠ some k
theorem Apart.below {g b g2 b2 : Nat} {W W' : World} (h : Apart g b g2 b2 W) (hb : Below W.heap.size W W') (h1 : g < W.heap.size) (h2 : g2 < W.heap.size) : Apart g b g2 b2 W' :=
  ⟨h.gg, h.gb, h.bg, h.bb, by rw [vown_same (hb.block g h1), vown_same (hb.block g2 h2)]; exact h.vv⟩
end Go.Proofs.Ytcbkcgnigncahaa.P
namespace Go.Proofs.Ytcbkcgnigncahaa.P
open Go.RowKit Go.Maps Go.Sort Go.Proofs.YtcbkcgnigncahaaW.PrintWords Go.Proofs.YtcbkcgnigncahaaW.PrintLast Go.Proofs.YtcbkcgnigncahaaW.PrintMore
attribute [local go_sem] max2_int min2_int max_two min_two max_three min_three max_four min_four
set_option linter.unusedVariables false
set_option linter.unusedSimpArgs false
def intR (v : Value) : Option (DataW Unit × List MemPlace) := match v with
  | .int .i64 z => some (intD z, [])
  | _ => none
theorem intR_mk (z : Int) : intR (.int .i64 z) = some (intD z, []) := rfl
theorem intR_inv {v : Value} {y : DataW Unit × List MemPlace} (h : intR v = some y) : ∃ z, v = .int .i64 z ∧ y = (intD z, []) := by
  cases v with
  | int k z =>
    cases k with
    | i64 => exact ⟨z, rfl, (Option.some.inj h).symm⟩
    | _ => cases h
  | _ => cases h
theorem keyOf_str_inv {key : Value} {kl : Lit} (h : keyOf Try.prog 9 key = some kl) : ∃ x : ByteArray, key = .string x ∧ kl = keyB x ∧ x.size ≤ maxLen := by
  cases key <;> simp [keyOf, Try.underlying9, mapKey] at h
  exact ⟨_, rfl, h.2.symm, h.1⟩
section
variable (w : World) {ops : Array Oper} {rest : List Oper} {o : Oper} {a : Act} {Q : Exit → Act → World → Prop}
/-- 'bases[name] = base'. -/
theorem update_base (hg : o.guard = none) (m x v : Operand) (hop : o.op = Op.mapUpdate 116 m x v) (b n : Nat) (D : DataW Unit) (s : ByteArray) (c : Int)
    (hm : a.eval m = .map (some b)) (hx : a.eval x = .string s) (hv : a.eval v = .int .i64 c) (hown : w.ownsMap Try.prog 9 intR b n D) (hs : s.size ≤ maxLen) (hn : n < maxLen)
    (hK : ∀ w', w'.ownsMap Try.prog 9 intR b (n + 1) (D.put (keyB s) (intD c)) → w.grownBy w' (some b) → wpList Try.prog ops Q rest (a.put o.dst undef) w') :
    wpList Try.prog ops Q (o :: rest) a w :=
  wpList_mapUpdate_own w hg m x v 116 hop 9 3 (string_keyed Try.underlying9) Try.underlying116 intR b n D hm hown hn (.string s) _ (keyB s) hx hv (keyOf_str Try.underlying9 hs) (intD c) [] (intR_mk c) hK
/-- The next entry of the map of bases. -/
theorem next_base (hg : o.guard = none) (it : Operand) (hop : o.op = Op.next it false) (b r n : Nat) (D : DataW Unit) (left : Lit → Bool) (cnt : Nat)
    (hit : a.eval it = .pointer (some ⟨r, 0, none⟩)) (h : w.ranges Try.prog 9 intR b r n D left cnt)
    (hDone : (∀ kl, left kl = false) → wpList Try.prog ops Q rest (a.put o.dst (.tuple #[.bool false])) w)
    (hMore : ∀ (x : ByteArray) (c : Int) (w' : World) (cnt' : Nat), left (keyB x) = true → baseD D x = c → x.size ≤ maxLen → w'.ranges Try.prog 9 intR b r n D (fun z => left z && !z.sameKey (keyB x)) cnt' → cnt' < cnt →
      w.grownBy w' (some r) → w'.heap.size = w.heap.size → (Instr.entry (.pointer (some ⟨r, 0, none⟩))).run Try.prog w' = .ok (.tuple #[.string x, .int .i64 c]) w' → wpList Try.prog ops Q rest (a.put o.dst (.tuple #[.bool true, .string x, .int .i64 c])) w') :
    wpList Try.prog ops Q (o :: rest) a w :=
  wpList_next_ranges w hg it hop 9 (string_keyed Try.underlying9) intR Value.string (Value.int .i64) (fun key kl hk => by obtain ⟨x, rfl, _⟩ := keyOf_str_inv hk; exact ⟨x, rfl⟩) (fun v y hv => by obtain ⟨c, rfl, _⟩ := intR_inv hv; exact ⟨c, rfl⟩)
    b r n D left cnt hit h (fun _ hl => hDone hl) (fun x c kl y w' cnt' hk hl hv hat hr hlt hgr hsz hen => by
      obtain ⟨x', ex, rfl, hxs⟩ := keyOf_str_inv hk
      cases ex
      obtain ⟨c', ec, rfl⟩ := intR_inv hv
      cases ec
      exact hMore x c w' cnt' hl (by unfold baseD; rw [hat]; rfl) hxs hr hlt hgr hsz hen)
end
theorem LS.tight {base g b n : Nat} {s : Ln} {W : World} (h : LS base g b n s W) (hg : Good s) : LS base g b 64 s W := by
  obtain ⟨h1, h2, h3, es, clock, hb, F, hs, hD⟩ := h
  refine ⟨h1, h2, h3, es, clock, hb, F, ?_, hD⟩
  have h4 : Maps.size s.D = es.size := by
    rw [hD]
    simp [Maps.size, length_sorted]
  have := hg.few
  omega
/-- Block k is none of the line's. -/
structure Beside (g b k : Nat) (W : World) : Prop where
  ng : k ≠ g
  nb : k ≠ b
  nv : some k ≠ vown g W
  lt : k < W.heap.size
theorem Beside.keep {g b k : Nat} {W W' : World} (h : Beside g b k W) (hk : KeepO g b W W') : W'.heap[k]? = W.heap[k]? ∧ Beside g b k W' := by
  refine ⟨hk.block k h.lt h.ng h.nb h.nv, h.ng, h.nb, ?_, Nat.lt_of_lt_of_le h.lt hk.size⟩
  rcases hk.own with e | ⟨j, e, hj⟩
  · rw [e]; exact h.nv
  · rw [e]; intro e2; have := Option.some.inj e2; have := h.lt; omega
theorem Beside.below {g b k : Nat} {W W' : World} (h : Beside g b k W) (hg : g < W.heap.size) (hb : Below W.heap.size W W') : Beside g b k W' :=
  ⟨h.ng, h.nb, by rw [vown_same (hb.block g hg)]; exact h.nv, Nat.lt_of_lt_of_le h.lt hb.size⟩
theorem Beside.grown {g b k r : Nat} {W W' : World} (h : Beside g b k W) (hg : g < W.heap.size) (hne : g ≠ r) (hb : W.grownBy W' (some r)) : Beside g b k W' :=
  ⟨h.ng, h.nb, by rw [vown_same (hb.block g hg (fun e => hne (Option.some.inj e)))]; exact h.nv, Nat.lt_of_lt_of_le h.lt hb.size⟩
theorem owns_same {b n : Nat} {D : DataW Unit} {R : Value → Option (DataW Unit × List MemPlace)} {W W' : World} (h : W.ownsMap Try.prog 9 R b n D) (e : W'.heap[b]? = W.heap[b]?) : W'.ownsMap Try.prog 9 R b n D := by
  obtain ⟨es, clock, hb, rest⟩ := h
  exact ⟨es, clock, e.trans hb, rest⟩
theorem ranges_same {b r n cnt : Nat} {D : DataW Unit} {left : Lit → Bool} {R : Value → Option (DataW Unit × List MemPlace)} {W W' : World} (h : W.ranges Try.prog 9 R b r n D left cnt) (e : W'.heap[b]? = W.heap[b]?) (e2 : W'.heap[r]? = W.heap[r]?) : W'.ranges Try.prog 9 R b r n D left cnt := by
  obtain ⟨es, clock, since, seen, c0, hb, F, hs, hD, hr, rest⟩ := h
  exact ⟨es, clock, since, seen, c0, e.trans hb, F, hs, hD, e2.trans hr, rest⟩
/-- What stands while a line is played again. -/
structure PF (base g b bb nb base2 : Nat) (D0 : DataW Unit) (A : Option Addr) (c : Nat) (vs : List S43) (w : World) (s : Ln) (W : World) : Prop where
  ls : LS base g b 64 s W
  bl : Below base w W
  dm : W.ownsMap Try.prog 9 intR bb nb D0
  bs : Beside g b bb W
  bw : base ≤ w.heap.size
  row : Kd.R k43 43 W base2 (fun k => Beside g b k W) (.slice A vs.length c) vs
section
variable {base g b bb nb base2 : Nat} {D0 : DataW Unit} {A : Option Addr} {c : Nat} {vs : List S43} {w : World} {s s' : Ln} {W W' : World}
theorem row43_move {v : Value} {ok ok' : Nat → Prop} (h : Kd.R k43 43 W base2 ok v vs) (hm : ∀ k, ok k → W'.heap[k]? = W.heap[k]? ∧ ok' k) : Kd.R k43 43 W' base2 ok' v vs :=
  Kd.R_mono (Kd.R_move (Kd.R_mono h (ok' := fun k => ok k) (fun _ h => h)) (fun k hk => (hm k hk).1)) (fun k hk => (hm k hk).2)
theorem PF.keep (h : PF base g b bb nb base2 D0 A c vs w s W) (hl : LS base g b 64 s' W') (hb : Below base W W') (hk : KeepO g b W W') : PF base g b bb nb base2 D0 A c vs w s' W' :=
  ⟨hl, h.bl.trans hb, owns_same h.dm (h.bs.keep hk).1, (h.bs.keep hk).2, h.bw, row43_move h.row (fun k hk' => hk'.keep hk)⟩
theorem PF.below (h : PF base g b bb nb base2 D0 A c vs w s W) (hb : Below W.heap.size W W') : PF base g b bb nb base2 D0 A c vs w s W' :=
  ⟨h.ls.below hb, h.bl.trans (hb.mono (Nat.le_trans h.bw h.bl.size)), owns_same h.dm (hb.block _ h.bs.lt), h.bs.below h.ls.lt hb, h.bw, row43_move h.row (fun k hk' => ⟨hb.block k hk'.lt, hk'.below h.ls.lt hb⟩)⟩
theorem LS.keepN {n r : Nat} (h : LS base g b n s W) (hr : Beside g b r W) (hb : W.grownBy W' (some r)) : LS base g b n s W' := by
  obtain ⟨h1, h2, ⟨v, h3, h4⟩, h5⟩ := h
  refine ⟨h1, h2, ⟨v, blk_grown h3 hb (fun e => hr.ng (Option.some.inj e).symm), ?_⟩, h5.kept hb (fun e => hr.nb (Option.some.inj e).symm)⟩
  refine Kd.R_mono (Kd.R_grown (Kd.R_mono (R_only43 h4) (ok' := fun k => k ≠ g ∧ v.ownBlock = some k) (fun k hk => hk)) hb (fun k hk e => hr.nv ?_)) (fun k hk => hk.1)
  rw [vown_of h3, hk.2, e]
theorem PF.grown {r : Nat} (h : PF base g b bb nb base2 D0 A c vs w s W) (hr : Beside g b r W) (hb2 : base ≤ r) (hrb : r ≠ bb) (hrow : ∀ k, (Value.slice A vs.length c).ownBlock = some k → k ≠ r) (hb : W.grownBy W' (some r)) : PF base g b bb nb base2 D0 A c vs w s W' := by
  refine ⟨h.ls.keepN hr hb, ?_, h.dm.kept hb (fun e => hrb (Option.some.inj e).symm), h.bs.grown h.ls.lt (Ne.symm hr.ng) hb, h.bw, row43_move (ok := fun k => Beside g b k W ∧ (Value.slice A vs.length c).ownBlock = some k) (R_only43 h.row) (fun k hk' => ⟨hb.block k hk'.1.lt (fun e => hrow k hk'.2 (Option.some.inj e)), hk'.1.grown h.ls.lt (Ne.symm hr.ng) hb⟩)⟩
  exact h.bl.grown hb (Nat.le_trans h.bw h.bl.size) (fun k hk => by cases hk; exact hb2)
end
end Go.Proofs.Ytcbkcgnigncahaa.P
