import Derived.Test.YtcbkcgnigncahaaEGivenXi
import Derived.Test.YtcbkcgnigncahaaEGivenZj
import Derived.Test.YtcbkcgnigncahaaEGivenZf
import Derived.Test.YtcbkcgnigncahaaEPlainS
import Derived.Test.YtcbkcgnigncahaaEGivenYe
namespace Go.Proofs.Ytcbkcgnigncahaa.P
open Go.RowKit Go.Maps Go.Sort Go.Proofs.YtcbkcgnigncahaaW.PrintWords Go.Proofs.YtcbkcgnigncahaaW.PrintLast Go.Proofs.YtcbkcgnigncahaaW.PrintMore
attribute [local go_sem] max2_int min2_int max_two min_two max_three min_three max_four min_four
set_option linter.unusedVariables false
set_option linter.unusedSimpArgs false
theorem Good3.run : ∀ (ops : List S38) {s : Ln}, Good3 s → Good3 (runL s ops)
  | [], _, h => h
  | o :: ops, _, h => Good3.run ops (h.do_ o)
theorem rs_new (w : World) (base : Nat) (hb : base ≤ w.heap.size) : RS base w.heap.size (rfOf Ln0) (w.alloc (.cells #[.slice none 0 0, .slice none 0 0] 53)) :=
  ⟨hb, _, _, blk_new w _, Kd.R_nil _ _ _ _ _, Kd.R_nil _ _ _ _ _⟩
end Go.Proofs.Ytcbkcgnigncahaa.P
namespace Go.Proofs.Ytcbkcgnigncahaa.P
open Go.RowKit Go.Maps Go.Sort Go.Proofs.YtcbkcgnigncahaaW.PrintWords Go.Proofs.YtcbkcgnigncahaaW.PrintLast Go.Proofs.YtcbkcgnigncahaaW.PrintMore
open Wr (U8s uintB)
attribute [local go_sem] max2_int min2_int max_two min_two max_three min_three max_four min_four
set_option linter.unusedVariables false
set_option linter.unusedSimpArgs false
theorem few_c (bs : List Int) (m : Int) (ys : List Int) (hy : bs.take m.toNat = ys) (A : Option Addr) (c : Nat) (w : World) (hC : Kd.C (Kd.int .u8) w A bs.length bs) (hc : bs.length ≤ c) (hl : bs.length ≤ 140737488351232) (hm : 0 ≤ m) :
    Calls Try.prog 39 #[.slice A bs.length c, .int .i64 m] w fun e w' => ∃ A' c', e = .returned (.slice A' ys.length c') ∧ Kd.R (Kd.int .u8) 5 w' w.heap.size (fun _ => True) (.slice A' ys.length c') ys ∧ Below w.heap.size w w' := by
  subst hy
  refine (Wr.few_calls A c bs m w hC hc hl hm).mono ?_
  rintro e w' ⟨v, rfl, h1, h2⟩
  obtain ⟨A', c', rfl⟩ := Kd.R_slice h1
  exact ⟨A', c', rfl, h1, h2⟩
theorem few_d (bs : List Int) (m : Int) (ys : List Int) (hy : bs.take m.toNat = ys) (A : Option Addr) (c : Nat) (w : World) (hC : Kd.C (Kd.int .u8) w A bs.length bs) (hc : bs.length ≤ c) (hl : bs.length ≤ 140737488351232) (hm : 0 ≤ m) (w0 : World) (hB : Below w0.heap.size w0 w) :
    Calls Try.prog 39 #[.slice A bs.length c, .int .i64 m] w fun e w' => ∃ A' c', e = .returned (.slice A' ys.length c') ∧ Aside0 (Kd.R (Kd.int .u8) 5 w' w0.heap.size (fun k => k < w'.heap.size) (.slice A' ys.length c') ys) ∧ Aside0 (∀ k, k < w.heap.size → some k ≠ (Value.slice A' ys.length c').ownBlock) ∧ Aside0 (Below w0.heap.size w0 w') ∧ Aside0 (Below w.heap.size w w') := by
  refine (few_c bs m ys hy A c w hC hc hl hm).mono ?_
  rintro e w' ⟨A', c', rfl, h1, h2⟩
  exact ⟨A', c', rfl, ⟨Kd.R_lower (Kd.R_mono (Kd.R_bound h1) (fun k hk => hk.2.2.1)) hB.size⟩, ⟨fun k hk => Wr.R_below_ne h1 k hk⟩, ⟨below_step hB h2⟩, ⟨h2⟩⟩
section
variable {P : Program} {ops : Array Oper} {o : Oper} {a : Act} {Q : Exit → Act → World → Prop} {Kc : Act → World → Prop}
theorem app_step {w0 W : World} (base : Nat) (hw : Region.wanted o (yielded ops a.tmps) = true) (s x : Operand)
    (ho : o.op = .call { callee := .builtin .append, args := #[s, x], argTypes := #[63, 63] })
    (ht : P.underlying 63 = some (.slice 5)) (hinfo : (P.info? 5).map (fun i => (i.zero, i.size, i.bytes)) = some (some (.int .u8 0), 1, 1))
    (v : Value) (xs ys : List Int) (m c n : Nat) (hs : a.eval s = v) (hx : ∃ A, a.eval x = .slice A m c ∧ Kd.C (Kd.int .u8) W A m ys)
    (HO : Kd.R (Kd.int .u8) 5 W base (fun k => k < n) v xs) (HB : Below base w0 W) (hbase : base ≤ W.heap.size) (hl : xs.length + m ≤ 140737488355328)
    (h : ∀ v1 w1, Kd.R (Kd.int .u8) 5 w1 base (fun _ => True) v1 (xs ++ ys) → Below base w0 w1 → W.grownBy w1 v.ownBlock → Kc (a.put o.dst v1) w1) :
    if Region.wanted o (yielded ops a.tmps) = true then Oper.wp P o a W Kc Q else Kc (a.put o.dst undef) W := by
  obtain ⟨A, hx, HR⟩ := hx
  exact Kd.R_append_rows_step (Kd.int .u8) base hw s x 63 5 (.int .u8 0) 1 ho ht hinfo rfl (by decide) (by omega) v xs ys A m c (fun _ => True) (fun _ => False) hs hx (Kd.R_mono HO (fun _ _ => trivial)) HR (fun _ _ h => h) (fun _ h => h.elim) (fun _ _ => trivial) HB hbase (by omega) (fun v1 w1 h1 h2 h3 _ => h v1 w1 h1 h2 h3)
end
theorem C_lt {w : World} {A : Option Addr} {n : Nat} {xs : List Int} (h : Kd.C (Kd.int .u8) w A n xs) (ad : Addr) (e : A = some ad) (hn : 0 < n) : ad.block < w.heap.size := by
  obtain ⟨ad', e', hc⟩ := Kd.at_int h 0 (by omega) (by omega)
  rw [e] at e'
  obtain rfl := Option.some.inj e'
  have := World.block_lt_of_cell? _ _ hc
  simpa [Addr.add] using this
theorem C_grown1 {w w1 : World} {g : Nat} {A : Option Addr} {n : Nat} {xs : List Int} (h : Kd.C (Kd.int .u8) w A n xs) (hg : w.grownBy w1 (some g)) (hf : ∀ ad, A = some ad → 0 < n → ad.block ≠ g) : Kd.C (Kd.int .u8) w1 A n xs :=
  Kd.C_keep (W := w1) (g := g) 0 h ⟨hg.size, fun k hk hne _ => hg.block k hk (fun e => hne (Option.some.inj e))⟩ hf
theorem C1_of {w : World} {g : Nat} {x : Int} (h : w.heap[g]? = some (.cells #[.int .u8 x] 5 (0, 0))) : Kd.C (Kd.int .u8) w (some ⟨g, 0, none⟩) 1 [x] := by
  refine ⟨rfl, by decide, fun _ => ⟨_, rfl, fun j u hj => ?_⟩⟩
  have h0 : w.cell? ⟨g, 0, none⟩ = some (.int .u8 x) := blk_cell h 0
  match j, hj with
  | 0, hj =>
    cases hj
    refine ⟨[.int .u8 x], rfl, rfl, ?_⟩
    intro i v hi
    match i, hi with
    | 0, hi => cases hi; exact h0
    | n + 1, hi => cases hi
  | n + 1, hj => cases hj
def Four (w : World) (ad : Addr) : Prop := ∀ i : Int, 0 ≤ i → i < 4 → ∃ A X c, w.cell? (ad.add i.toNat) = some (.slice A X.length c) ∧ X.length ≤ c ∧ Kd.C (Kd.int .u8) w A X.length X ∧ U8s X ∧ X.length ≤ 1000000
theorem Four.below {w w1 : World} {ad : Addr} (h : Four w ad) (hb : Below w.heap.size w w1) : Four w1 ad := fun i h0 h1 => by
  obtain ⟨A, X, c, a1, a2, a3, a4⟩ := h i h0 h1
  exact ⟨A, X, c, pw_cell_below hb a1, a2, Kd.C_below a3 hb, a4⟩
theorem four_of {w : World} {g : Nat} {X0 X1 X2 X3 : List Int} {A0 A1 A2 A3 : Option Addr} {c0 c1 c2 c3 : Nat}
    (h : w.heap[g]? = some (.cells #[.slice A0 X0.length c0, .slice A1 X1.length c1, .slice A2 X2.length c2, .slice A3 X3.length c3] 63 (0, 0)))
    (h0 : X0.length ≤ c0 ∧ Kd.C (Kd.int .u8) w A0 X0.length X0 ∧ U8s X0 ∧ X0.length ≤ 1000000)
    (h1 : X1.length ≤ c1 ∧ Kd.C (Kd.int .u8) w A1 X1.length X1 ∧ U8s X1 ∧ X1.length ≤ 1000000)
    (h2 : X2.length ≤ c2 ∧ Kd.C (Kd.int .u8) w A2 X2.length X2 ∧ U8s X2 ∧ X2.length ≤ 1000000)
    (h3 : X3.length ≤ c3 ∧ Kd.C (Kd.int .u8) w A3 X3.length X3 ∧ U8s X3 ∧ X3.length ≤ 1000000) : Four w ⟨g, 0, none⟩ := by
  intro i hi hi4
  have k : ∀ j : Nat, (⟨g, 0, none⟩ : Addr).add j = ⟨g, j, none⟩ := fun j => by simp [Addr.add]; exact fun h => h.symm
  rw [k]
  obtain hj | hj | hj | hj : i.toNat = 0 ∨ i.toNat = 1 ∨ i.toNat = 2 ∨ i.toNat = 3 := by omega
  all_goals rw [hj]
  · exact ⟨_, _, _, blk_cell h 0, h0⟩
  · exact ⟨_, _, _, blk_cell h 1, h1⟩
  · exact ⟨_, _, _, blk_cell h 2, h2⟩
  · exact ⟨_, _, _, blk_cell h 3, h3⟩
theorem u8_put {X : List Int} (h : U8s X) (n : Nat) {b : Int} (hb : 0 ≤ b ∧ b < 256) : U8s (X.set n b) := fun x hx => (List.mem_or_eq_of_mem_set hx).elim (h x) (fun e => e ▸ hb)
theorem u8_cut {X : List Int} (h : U8s X) (n : Nat) : U8s (X.take n) := fun x hx => h x (List.mem_of_mem_take hx)
theorem bytes_loop (l : List Int) (hl : l.length ≤ 1000000) : ∀ (d : Nat) (i : Int) (k : Nat), (l.length : Int) - i = d → 0 ≤ i → d < k → skymosaicref01_SameBytes.l0 k l l i = some true := by
  intro d
  induction d with
  | zero =>
    intro i k hd h0 hk
    obtain ⟨k, rfl⟩ : ∃ m, k = m + 1 := ⟨k - 1, by omega⟩
    simp only [skymosaicref01_SameBytes.l0]
    rw [if_neg (by omega)]
  | succ d ih =>
    intro i k hd h0 hk
    obtain ⟨k, rfl⟩ : ∃ m, k = m + 1 := ⟨k - 1, by omega⟩
    simp only [skymosaicref01_SameBytes.l0]
    rw [if_pos (by omega), if_pos h0, if_pos (by omega), if_pos trivial, w64 (by omega)]
    exact ih (i + 1) k (by omega) (by omega) (by omega)
theorem sameb_c (X : List Int) (hl : X.length ≤ 1000000) (A1 A2 : Option Addr) (c1 c2 : Nat) (w : World) (h1 : Kd.C (Kd.int .u8) w A1 X.length X) (hc1 : X.length ≤ c1) (h2 : Kd.C (Kd.int .u8) w A2 X.length X) (hc2 : X.length ≤ c2) :
    Calls Try.prog 35 #[.slice A1 X.length c1, .slice A2 X.length c2] w fun e w' => e = .returned (.bool true) ∧ Below w.heap.size w w' := by
  refine (skymosaicref01_SameBytes.calls (X.length + 1) A1 c1 X A2 c2 X true w h1 hc1 h2 hc2 ?_).mono ?_
  · unfold skymosaicref01_SameBytes.f
    rw [if_pos rfl]
    exact bytes_loop X hl X.length 0 (X.length + 1) (by omega) (by omega) (by omega)
  · rintro e w' ⟨rfl, ⟨nd, rfl⟩⟩
    exact ⟨rfl, pw_below_drewN (Below.refl _ _) nd⟩
theorem Good4.run : ∀ (ops : List S38) {s : Ln}, (∀ o ∈ ops, OpOk o) → Good4 s → Good4 (runL s ops)
  | [], _, _, h => h
  | o :: ops, _, ho, h => Good4.run ops (fun x hx => ho x (List.mem_cons_of_mem _ hx)) (h.do_ (by have := (ho o List.mem_cons_self).reader; omega) (by have := (ho o List.mem_cons_self).root; omega))
/-- Decode of a line's own bytes. -/
theorem dec_yes (s0 : Ln) (h0 : Good4 s0) (X : List Int) (hX : lineB (rfOf s0) = X) (A : Option Addr) (c : Nat) (w : World) (hC : Kd.C (Kd.int .u8) w A X.length X) (hc : X.length ≤ c) :
    Calls Try.prog 37 #[.slice A X.length c] w fun e w' => ∃ g b s, e = .returned (.tuple #[.pointer (some ⟨g, 0, none⟩), .int .i64 0]) ∧ LS w.heap.size g b 64 s w' ∧ Good4 s ∧ rfOf s = rfOf s0 ∧ Below w.heap.size w w' := by
  have hl := lineB_len h0.neat
  have hu := lineB_u8 (rfOf s0)
  rw [hX] at hl hu
  refine (decode_calls A c X w hC hc (by omega) hu).mono ?_
  obtain ⟨D0, vs, hd, cm⟩ := rd_line h0
  rw [hX] at hd
  rintro e w' ⟨hb, ⟨rfl, hn⟩ | ⟨g, b, s, rfl, h1, h2, h3, h4⟩⟩
  · rw [hd] at hn
    exact absurd hX (hn s0 cm rfl)
  · rw [hd] at h4
    exact ⟨g, b, s, rfl, h1, h2, h4 s0 cm, hb⟩
/-- Decode of any bytes: an error, or a line with these bytes. -/
theorem dec_any (X : List Int) (hu : U8s X) (hl : X.length ≤ 1000000) (A : Option Addr) (c : Nat) (w : World) (hC : Kd.C (Kd.int .u8) w A X.length X) (hc : X.length ≤ c) :
    Calls Try.prog 37 #[.slice A X.length c] w fun e w' => Below w.heap.size w w' ∧ (e = .returned (.tuple #[.pointer none, .int .i64 2]) ∨ ∃ g b s, e = .returned (.tuple #[.pointer (some ⟨g, 0, none⟩), .int .i64 0]) ∧ LS w.heap.size g b 64 s w' ∧ Good4 s ∧ lineB (rfOf s) = X) := by
  refine (decode_calls A c X w hC hc hl hu).mono ?_
  rintro e w' ⟨hb, ⟨rfl, _⟩ | ⟨g, b, s, rfl, h1, h2, h3, _⟩⟩
  · exact ⟨hb, .inl rfl⟩
  · exact ⟨hb, .inr ⟨g, b, s, rfl, h1, h2, h3⟩⟩
end Go.Proofs.Ytcbkcgnigncahaa.P
