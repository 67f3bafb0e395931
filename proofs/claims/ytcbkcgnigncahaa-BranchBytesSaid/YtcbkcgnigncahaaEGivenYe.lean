import Derived.Test.YtcbkcgnigncahaaEGivenZh
import Derived.Test.YtcbkcgnigncahaaEGivenXg
import Derived.Test.YtcbkcgnigncahaaEGivenZg
import Derived.Shelf.SlMaps.Clone
import Derived.Test.YtcbkcgnigncahaaEGivenXh
import Derived.Test.YtcbkcgnigncahaaEGivenXe
import Derived.Test.YtcbkcgnigncahaaEGivenXi
namespace Go.Proofs.Ytcbkcgnigncahaa.P
open Go.RowKit Go.Maps Go.Sort Go.Proofs.YtcbkcgnigncahaaW.PrintWords Go.Proofs.YtcbkcgnigncahaaW.PrintLast Go.Proofs.YtcbkcgnigncahaaW.PrintMore
open Wr (Rd nextF uintF uintL rintF listF rboolF endF badB accN U8s)
attribute [local go_sem] max2_int min2_int max_two min_two max_three min_three max_four min_four
set_option linter.unusedVariables false
set_option linter.unusedSimpArgs false
theorem fail_b (s : Rd) (x : Int) : (s.fail x).b = s.b := by
  unfold Wr.Rd.fail
  split <;> rfl
theorem next_b (s : Rd) : (nextF s).2.b.length ≤ s.b.length := by
  unfold Wr.nextF
  split
  · rw [fail_b]
    exact Nat.le_refl _
  · rename_i c t h
    split
    · rw [h]; simp
    · exact Nat.le_refl _
theorem uintL_b : ∀ (k : Nat) (i n : Int) (s : Rd), (uintL k i n s).2.b.length ≤ s.b.length
  | 0, _, _, _ => Nat.le_refl _
  | k + 1, i, n, s => by
    have h1 := next_b s
    have h2 : (if badB i (nextF s).1 then (nextF s).2.fail 2 else (nextF s).2).b.length ≤ s.b.length := by
      split
      · rw [fail_b]; exact h1
      · exact h1
    simp only [Wr.uintL]
    generalize (if badB i (nextF s).1 then (nextF s).2.fail 2 else (nextF s).2) = s2 at h2
    split
    · split
      · exact h2
      · exact Nat.le_trans (uintL_b k _ _ _) h2
    · exact Nat.le_refl _
theorem uint_b (s : Rd) : (uintF s).2.b.length ≤ s.b.length := uintL_b _ _ _ _
theorem rint_b (s : Rd) : (rintF s).2.b.length ≤ s.b.length := uint_b s
theorem list_b (s : Rd) : (listF s).2.b.length ≤ s.b.length ∧ (listF s).1.length ≤ s.b.length := by
  have h := uint_b s
  have h2 : (if Wr.lenBad (uintF s).1 (uintF s).2 then (uintF s).2.fail 3 else (uintF s).2).b.length ≤ s.b.length := by
    split
    · rw [fail_b]; exact h
    · exact h
  unfold Wr.listF
  generalize (if Wr.lenBad (uintF s).1 (uintF s).2 then (uintF s).2.fail 3 else (uintF s).2) = s3 at h2
  by_cases he : s3.e = 0
  · rw [if_pos he]
    simp only [List.length_drop, List.length_take]
    omega
  · rw [if_neg he]
    exact ⟨h2, by simp⟩
theorem rbool_b (s : Rd) : (rboolF s).2.b.length ≤ s.b.length := by
  have h := next_b s
  unfold Wr.rboolF
  simp only
  split
  · rw [fail_b]; exact h
  · exact h
def basesL : Nat → DataW Unit → Rd → DataW Unit × Rd
  | 0, D, s => (D, s)
  | k + 1, D, s => basesL k (D.put (keyB (strOfNums (listF s).1)) (intD (rintF (listF s).2).1)) (rintF (listF s).2).2
def verF (s : Rd) : S43 × Rd :=
  (⟨0, (rintF s).1, strOfNums (listF (rintF s).2).1, (rintF (listF (rintF s).2).2).1, (rintF (rintF (listF (rintF s).2).2).2).1, (rintF (rintF (rintF (listF (rintF s).2).2).2).2).1, (uintF (rintF (rintF (rintF (listF (rintF s).2).2).2).2).2).1, (rboolF (uintF (rintF (rintF (rintF (listF (rintF s).2).2).2).2).2).2).1⟩,
    (rboolF (uintF (rintF (rintF (rintF (listF (rintF s).2).2).2).2).2).2).2)
def verL : Nat → List S43 → Rd → List S43 × Rd
  | 0, vs, s => (vs, s)
  | k + 1, vs, s => verL k (vs ++ [(verF s).1]) (verF s).2
def capN (n : Int) (m : Nat) : Nat := (if (m : Int) < n then (m : Int) else n).toNat
/-- The bases, the versions, and what is left of the reader. -/
def decRd (bs : List Int) : DataW Unit × List S43 × Rd :=
  let B := basesL (capN (rintF ⟨bs, 0⟩).1 bs.length) (.map []) (rintF ⟨bs, 0⟩).2
  let V := verL (capN (rintF B.2).1 bs.length) [] (rintF B.2).2
  (B.1, V.1, V.2)
theorem ver_b (s : Rd) : (verF s).2.b.length ≤ s.b.length := by
  unfold verF
  simp only
  refine Nat.le_trans (rbool_b _) (Nat.le_trans (uint_b _) (Nat.le_trans (rint_b _) (Nat.le_trans (rint_b _) (Nat.le_trans (rint_b _) (Nat.le_trans (list_b _).1 (rint_b _))))))
/-- A version that was read. -/
structure VOk (q : S43) : Prop where
  rd : q.f5 ≤ 9223372036854775807
  root : 0 ≤ q.f6 ∧ q.f6 < 18446744073709551616
  name : q.f2.size ≤ 1000000
theorem unzig_max (z : Int) : (Wr.unzigF z) ≤ 9223372036854775807 := by
  unfold Wr.unzigF
  have h := wf_bits .xor .i64 (wrap64 (z / 2)) (wrap64 (-(wrap64 (Go.bits .and .u64 z 1))))
  simp [Lit.wf, IntKind.min, IntKind.max, IntKind.signed, IntKind.bits] at h
  exact h.2
theorem uintL_lt : ∀ (k : Nat) (i n : Int) (s : Rd), n < 18446744073709551616 → (uintL k i n s).1 < 18446744073709551616
  | 0, _, _, _, _ => by simp [Wr.uintL]
  | k + 1, i, n, s, h => by
    have hb : accN n i (nextF s).1 < 18446744073709551616 := by
      have h : (Lit.int .u64 (accN n i (nextF s).1)).wf = true := wf_bits _ _ _ _
      simp [Lit.wf, IntKind.min, IntKind.max, IntKind.signed, IntKind.bits] at h
      omega
    simp only [Wr.uintL]
    generalize (if badB i (nextF s).1 then (nextF s).2.fail 2 else (nextF s).2) = s2
    split
    · split
      · exact hb
      · exact uintL_lt k _ _ _ hb
    · show (0 : Int) < 18446744073709551616
      decide
theorem ver_ok (s : Rd) (h : s.b.length ≤ 1000000) : VOk (verF s).1 := by
  refine ⟨unzig_max _, ⟨Wr.uintL_nn _ _ _ _ (by omega), uintL_lt _ _ _ _ (by decide)⟩, ?_⟩
  show (strOfNums (listF (rintF s).2).1).size ≤ 1000000
  rw [strOfNums_size]
  have h1 := (list_b (rintF s).2).2
  have h2 := rint_b s
  omega
section
variable {base g b n : Nat} {s : Ln} {W W' : World} {row : Option Nat}
theorem LS.keepG (h : LS base g b n s W) (hb : W.grownBy W' row) (h1 : some g ≠ row) (h2 : some b ≠ row) (h3 : ∀ k, vown g W = some k → some k ≠ row) : LS base g b n s W' := by
  obtain ⟨e1, e2, ⟨v, e3, e4⟩, e5⟩ := h
  refine ⟨e1, e2, ⟨v, blk_grown e3 hb h1, ?_⟩, e5.kept hb h2⟩
  exact Kd.R_mono (Kd.R_grown (Kd.R_mono (R_only43 e4) (ok' := fun k => k ≠ g ∧ v.ownBlock = some k) (fun k hk => hk)) hb (fun k hk e => h3 k (by rw [vown_of e3]; exact hk.2) e)) (fun k hk => hk.1)
theorem vown_base {k : Nat} (h : LS base g b n s W) (hk : vown g W = some k) : base ≤ k := by
  obtain ⟨e1, e2, ⟨v, e3, e4⟩, e5⟩ := h
  rw [vown_of e3] at hk
  obtain ⟨inner, ho⟩ := Kd.R_own e4
  exact own_base ho k hk
/-- What stands while Decode reads: the reader at g1 (older than the block numbered b1), the empty line at lg and its map lb, the map of bases bb; all of them are older than block hi. -/
structure DF (w : World) (b1 hi g1 lg lb bb nb : Nat) (D : DataW Unit) (s : Rd) (W : World) : Prop where
  rd : Wr.RS (fun k => k < b1) g1 s W
  rl : g1 < b1
  rw_ : w.heap.size ≤ g1
  ls : LS b1 lg lb 0 Ln0 W
  dm : W.ownsMap Try.prog 9 intR bb nb D
  bs : Beside lg lb bb W
  bw : b1 ≤ bb
  hl : lg < hi ∧ lb < hi ∧ bb < hi
  hv : ∀ k, vown lg W = some k → k < hi
  bl : Below w.heap.size w W
end
section
variable {w : World} {b1 hi g1 lg lb bb nb : Nat} {D D' : DataW Unit} {s s' : Rd} {W W' : World} {row : Option Nat}
theorem DF.read (h : DF w b1 hi g1 lg lb bb nb D s W) (hr : Wr.RS (fun k => k < b1) g1 s' W') (hg : W.grownBy W' (some g1)) : DF w b1 hi g1 lg lb bb nb D s' W' := by
  have hne : ∀ k, b1 ≤ k → some k ≠ some g1 := fun k hk e => by have := Option.some.inj e; have := h.rl; omega
  have hlg := h.ls.1
  have hlb := h.ls.2.1
  refine ⟨hr, h.rl, h.rw_, h.ls.keepG hg (hne _ hlg) (hne _ hlb) (fun k hk => hne k (vown_base h.ls hk)), h.dm.kept hg (hne _ h.bw), h.bs.grown h.ls.lt (fun e => hne _ hlg (by rw [e])) hg, h.bw, h.hl, ?_, h.bl.grown hg h.bl.size (fun k hk => by cases hk; exact h.rw_)⟩
  rw [vown_same (hg.block lg h.ls.lt (hne _ hlg))]
  exact h.hv
theorem DF.put {nb' : Nat} (h : DF w b1 hi g1 lg lb bb nb D s W) (ho : W'.ownsMap Try.prog 9 intR bb nb' D') (hg : W.grownBy W' (some bb)) : DF w b1 hi g1 lg lb bb nb' D' s W' := by
  have hbw := h.bw
  have hrl := h.rl
  refine ⟨h.rd.grown hg (fun e => by have := Option.some.inj e; omega) (fun k hk e => by have := Option.some.inj e; omega), h.rl, h.rw_,
    h.ls.keepG hg (fun e => h.bs.ng (Option.some.inj e).symm) (fun e => h.bs.nb (Option.some.inj e).symm) (fun k hk e => h.bs.nv (by rw [hk, e])), ho, h.bs.grown h.ls.lt (Ne.symm h.bs.ng) hg, h.bw, h.hl, ?_, h.bl.grown hg h.bl.size (fun k hk => by cases hk; have := h.rw_; omega)⟩
  rw [vown_same (hg.block lg h.ls.lt (fun e => h.bs.ng (Option.some.inj e).symm))]
  exact h.hv
theorem DF.other (h : DF w b1 hi g1 lg lb bb nb D s W) (hg : W.grownBy W' row) (hr : ∀ r, row = some r → hi ≤ r) : DF w b1 hi g1 lg lb bb nb D s W' := by
  have hne : ∀ k, k < hi → some k ≠ row := fun k hk e => by have := hr k e.symm; omega
  have hbw := h.bw
  have hrl := h.rl
  obtain ⟨h1, h2, h3⟩ := h.hl
  refine ⟨h.rd.grown hg (hne _ (by omega)) (fun k hk => hne _ (by omega)), h.rl, h.rw_, h.ls.keepG hg (hne _ h1) (hne _ h2) (fun k hk => hne _ (h.hv k hk)), h.dm.kept hg (hne _ h3), ?_, h.bw, h.hl, ?_, h.bl.grown hg h.bl.size (fun k hk => by have := hr k hk; have := h.rw_; omega)⟩
  · exact ⟨h.bs.ng, h.bs.nb, by rw [vown_same (hg.block lg h.ls.lt (hne _ h1))]; exact h.bs.nv, Nat.lt_of_lt_of_le h.bs.lt hg.size⟩
  · rw [vown_same (hg.block lg h.ls.lt (hne _ h1))]
    exact h.hv
theorem DF.alloc (h : DF w b1 hi g1 lg lb bb nb D s W) (o : Obj) : DF w b1 hi g1 lg lb bb nb D s (W.alloc o) := h.other (row := none) (World.grownBy_alloc W o none) (fun r e => by cases e)
theorem DF.lift (h : DF w b1 hi g1 lg lb bb nb D s W) : DF w b1 W.heap.size g1 lg lb bb nb D s W :=
  ⟨h.rd, h.rl, h.rw_, h.ls, h.dm, h.bs, h.bw, ⟨h.ls.lt, h.ls.ltb, h.bs.lt⟩, fun k hk => vown_lt h.ls hk, h.bl⟩
theorem row43_other {base2 r : Nat} {v : Value} {vs : List S43} (h : Kd.R k43 43 W base2 (fun _ => True) v vs) (hg : W.grownBy W' (some r)) (hr : r < base2) : Kd.R k43 43 W' base2 (fun _ => True) v vs := by
  refine Kd.R_mono (Kd.R_grown (Kd.R_bound h) hg (fun k hk e => ?_)) (fun _ _ => trivial)
  have := hk.2.1
  have := Option.some.inj e
  omega
/-- The reader's methods, where Decode stands. -/
theorem d_int (h : DF w b1 hi g1 lg lb bb nb D s W) : Calls Try.prog 72 #[.pointer (some ⟨g1, 0, none⟩)] W fun e w' => e = .returned (.int .i64 (rintF s).1) ∧ DF w b1 hi g1 lg lb bb nb D (rintF s).2 w' ∧ W.grownBy w' (some g1) := by
  refine (Wr.rint_calls g1 s W h.rd).mono ?_
  rintro e w' ⟨rfl, h1, h2⟩
  exact ⟨rfl, h.read h1 h2, h2⟩
theorem d_uint (h : DF w b1 hi g1 lg lb bb nb D s W) : Calls Try.prog 74 #[.pointer (some ⟨g1, 0, none⟩)] W fun e w' => e = .returned (.int .u64 (uintF s).1) ∧ DF w b1 hi g1 lg lb bb nb D (uintF s).2 w' ∧ W.grownBy w' (some g1) := by
  refine (Wr.ruint_calls g1 s W h.rd).mono ?_
  rintro e w' ⟨rfl, h1, h2⟩
  exact ⟨rfl, h.read h1 h2, h2⟩
theorem d_bool (h : DF w b1 hi g1 lg lb bb nb D s W) : Calls Try.prog 75 #[.pointer (some ⟨g1, 0, none⟩)] W fun e w' => e = .returned (.bool (rboolF s).1) ∧ DF w b1 hi g1 lg lb bb nb D (rboolF s).2 w' ∧ W.grownBy w' (some g1) := by
  refine (Wr.rbool_calls g1 s W h.rd).mono ?_
  rintro e w' ⟨rfl, h1, h2⟩
  exact ⟨rfl, h.read h1 h2, h2⟩
theorem d_text (h : DF w b1 hi g1 lg lb bb nb D s W) (hl : s.b.length ≤ 1000000) : Calls Try.prog 73 #[.pointer (some ⟨g1, 0, none⟩)] W fun e w' => e = .returned (.string (strOfNums (listF s).1)) ∧ DF w b1 hi g1 lg lb bb nb D (listF s).2 w' ∧ W.grownBy w' (some g1) := by
  have hu := uint_b s
  refine (Wr.rtext_calls g1 s W h.rd (by omega) (by omega)).mono ?_
  rintro e w' ⟨rfl, h1, h2⟩
  exact ⟨rfl, h.read (h1.mono (fun k hk => hk.1)) h2, h2⟩
theorem d_end (h : DF w b1 hi g1 lg lb bb nb D s W) : Calls Try.prog 76 #[.pointer (some ⟨g1, 0, none⟩)] W fun e w' => e = .returned (.int .i64 (endF s)) ∧ W = w' := Wr.end_calls g1 s W h.rd
end
section
variable {ops : Array Oper} {rest : List Oper} {o : Oper} {a : Act} {Q : Exit → Act → World → Prop}
theorem app43 {W : World} (base2 : Nat) (hgd : o.guard = none) (s x : Operand) (ho : o.op = .call { callee := .builtin .append, args := #[s, x], argTypes := #[57, 57] }) (v : Value) (xs : List S43) (q : S43) (hs : a.eval s = v) (kk : Nat) (hx : a.eval x = .slice (some ⟨kk, 0, none⟩) 1 1) (hkk : kk = W.heap.size)
    (HO : Kd.R k43 43 W base2 (fun _ => True) v xs) (hbase : base2 ≤ W.heap.size) (hl : xs.length ≤ 1000000)
    (h : ∀ v1 w1, Kd.R k43 43 w1 base2 (fun _ => True) v1 (xs ++ [q]) → W.grownBy w1 v.ownBlock → wpList Try.prog ops Q rest (a.put o.dst v1) w1) :
    wpList Try.prog ops Q (o :: rest) a (W.alloc (.cells #[.int .i64 q.f0, .int .i64 q.f1, .string q.f2, .int .i64 q.f3, .int .i64 q.f4, .int .i64 q.f5, .int .u64 q.f6, .bool q.f7] 43)) := by
  subst hkk
  exact Kd.R_append k43 (w0 := W) base2 hgd s x 57 43 (.agg #[(.int .i64 0), (.int .i64 0), (.string ⟨#[]⟩), (.int .i64 0), (.int .i64 0), (.int .i64 0), (.int .u64 0), (.bool false)]) 72 ho Try.underlying57 info43 rfl (by decide) (by omega) v xs q _ (fun _ => True) (fun _ => False) hs hx (k43_mkM _ _ _ q) (fun _ hk => hk.elim) (fun _ _ => trivial) HO (Below.refl _ _ |> fun h => h) hbase (by omega)
    (fun v1 w1 h1 _ h3 _ => h v1 w1 h1 h3)
end
end Go.Proofs.Ytcbkcgnigncahaa.P
namespace Go.Proofs.Ytcbkcgnigncahaa.P
open Go.RowKit Go.Maps Go.Proofs.YtcbkcgnigncahaaW.PrintWords Go.Proofs.YtcbkcgnigncahaaW.PrintLast Go.Proofs.YtcbkcgnigncahaaW.PrintMore
set_option linter.unusedVariables false
set_option linter.unusedSimpArgs false
structure RApart (g g2 : Nat) (W : World) : Prop where
  gg : g ≠ g2
  uu : ∀ k, bown g W = some k → bown g2 W ≠ some k
  vv : ∀ k, vown g W = some k → vown g2 W ≠ some k
theorem RApart.same {g g2 : Nat} {W W' : World} (h : RApart g g2 W) (h1 : W'.heap[g]? = W.heap[g]?) (h2 : W'.heap[g2]? = W.heap[g2]?) : RApart g g2 W' :=
  ⟨h.gg, by rw [bown_same h1, bown_same h2]; exact h.uu, by rw [vown_same h1, vown_same h2]; exact h.vv⟩
theorem RApart.below {g g2 : Nat} {W W' : World} (h : RApart g g2 W) (hb : Below W.heap.size W W') (h1 : g < W.heap.size) (h2 : g2 < W.heap.size) : RApart g g2 W' := h.same (hb.block g h1) (hb.block g2 h2)
/-- What a line's own operation leaves, leaves two of the reference's lines apart; and the other way round. -/
theorem RApart.keepT {base g base2 g2 : Nat} {r r2 : Rf} {W W' : World} (h : RApart g g2 W) (h1 : RS base g r W) (h2 : RS base2 g2 r2 W) (hk : KeepT W W') : RApart g g2 W' := by
  obtain ⟨_, u, v, a3, _⟩ := h1
  obtain ⟨_, u2, v2, c3, _⟩ := h2
  exact h.same ((hk _ _ _ a3 (by decide) (by decide)).trans a3.symm) ((hk _ _ _ c3 (by decide) (by decide)).trans c3.symm)
theorem Apart.keepR {base g b n base2 g2 b2 n2 : Nat} {s s2 : Ln} {W W' : World} (h : Apart g b g2 b2 W) (h1 : LS base g b n s W) (h2 : LS base2 g2 b2 n2 s2 W) (hk : KeepR W W') : Apart g b g2 b2 W' := by
  obtain ⟨_, _, ⟨v, a3, _⟩, _⟩ := h1
  obtain ⟨_, _, ⟨v2, c3, _⟩, _⟩ := h2
  have e1 : W'.heap[g]? = W.heap[g]? := (hk _ _ a3 (by rintro cs fr e; injection e with _ e; exact absurd e (by decide)) (by rintro cs fr e; injection e with _ e; exact absurd e (by decide)) (by rintro cs fr e; injection e with _ e; exact absurd e (by decide))).trans a3.symm
  have e2 : W'.heap[g2]? = W.heap[g2]? := (hk _ _ c3 (by rintro cs fr e; injection e with _ e; exact absurd e (by decide)) (by rintro cs fr e; injection e with _ e; exact absurd e (by decide)) (by rintro cs fr e; injection e with _ e; exact absurd e (by decide))).trans c3.symm
  exact ⟨h.gg, h.gb, h.bg, h.bb, by rw [vown_same e1, vown_same e2]; exact h.vv⟩
end Go.Proofs.Ytcbkcgnigncahaa.P
namespace Go.Proofs.Ytcbkcgnigncahaa.P
open Go.RowKit Go.Maps Go.Proofs Go.Proofs.YtcbkcgnigncahaaW.PrintWords Go.Proofs.YtcbkcgnigncahaaW.PrintLast Go.Proofs.YtcbkcgnigncahaaW.PrintMore
attribute [local go_sem] max2_int min2_int max_two min_two max_three min_three max_four min_four
set_option linter.unusedVariables false
set_option linter.unusedSimpArgs false
end Go.Proofs.Ytcbkcgnigncahaa.P
namespace Go.Proofs.Ytcbkcgnigncahaa.P
open Go.RowKit Go.Maps Go.Proofs Go.Proofs.YtcbkcgnigncahaaW.PrintWords Go.Proofs.YtcbkcgnigncahaaW.PrintLast Go.Proofs.YtcbkcgnigncahaaW.PrintMore
open Go.Proofs.YtcbkcgnigncahaaW.PrintWords.Kd
attribute [local go_sem] max2_int min2_int max_two min_two max_three min_three max_four min_four
set_option linter.unusedVariables false
set_option linter.unusedSimpArgs false
section
variable {P : Program} {ops : Array Oper} {o : Oper} {a : Act} {Q : Exit → Act → World → Prop} {Kc : Act → World → Prop} {α : Type}
theorem R_append_rows_step (d : Kd α) {Rr : α → List Value → Prop} {w0 W : World} (base : Nat) (hw : Region.wanted o (yielded ops a.tmps) = true) (s x : Operand) (t e : TypeId) (z : Value) (bytes : Nat)
    (ho : o.op = .call { callee := .builtin .append, args := #[s, x], argTypes := #[t, t] })
    (ht : P.underlying t = some (.slice e)) (hinfo : (P.info? e).map (fun i => (i.zero, i.size, i.bytes)) = some (some z, d.sz, bytes)) (hz : z.cells.size = d.sz) (hs0 : 0 < d.sz) (hb0 : 0 < bytes)
    (v : Value) (xs ys : List α) (A : Option Addr) (m c : Nat) (ok okp : Nat → Prop) (hs : a.eval s = v) (hx : a.eval x = .slice A m c)
    (HO : d.R e W base ok v xs) (HR : ReadsRow Rr d.sz W A m ys) (hKM : ∀ x cs, Rr x cs → d.M W base okp x cs) (hokp : ∀ k, okp k → ok k ∧ some k ≠ v.ownBlock) (hfresh : ∀ k, W.heap.size ≤ k → ok k)
    (HB : Below base w0 W) (hbase : base ≤ W.heap.size) (hl : (xs.length + m) * bytes ≤ 140737488355328)
    (h : ∀ v1 w1, d.R e w1 base ok v1 (xs ++ ys) → Below base w0 w1 → W.grownBy w1 v.ownBlock → (v1.ownBlock = v.ownBlock ∨ ∃ b, v1.ownBlock = some b ∧ W.heap.size ≤ b) → Kc (a.put o.dst v1) w1) :
    if Region.wanted o (yielded ops a.tmps) = true then Oper.wp P o a W Kc Q else Kc (a.put o.dst undef) W := by
  obtain ⟨i0, hi, hzz⟩ := Option.map_eq_some_iff.1 hinfo
  simp only [Prod.mk.injEq] at hzz
  obtain ⟨hz0, hz1, hz2⟩ := hzz
  have hm : ys.length = m := HR.1
  have hlen : xs.length + m ≤ 140737488355328 := Nat.le_trans (Nat.le_mul_of_pos_right _ hb0) hl
  obtain ⟨hok, inner, hown, hr⟩ := HO
  have hrun : ∃ v1 w1, (Builtin.append_ #[t, t] o.type #[v, .slice A m c]).run P W = .ok v1 w1 ∧ d.R e w1 base ok v1 (xs ++ ys) ∧ W.grownBy w1 v.ownBlock ∧ (v1.ownBlock = v.ownBlock ∨ ∃ b, v1.ownBlock = some b ∧ W.heap.size ≤ b) := by
    rcases A with _ | ad
    · have h0 : m = 0 := by
        rcases Nat.eq_zero_or_pos m with h0 | h0
        · exact h0
        · obtain ⟨ad, h, _⟩ := HR.2.2 h0
          cases h
      subst h0
      obtain rfl : ys = [] := List.eq_nil_of_length_eq_zero hm
      refine ⟨v, W, ?_, by rw [List.append_nil]; exact ⟨hok, inner, hown, hr⟩, World.grownBy.refl W _, .inl rfl⟩
      rcases hown.2 with ⟨rfl, hn⟩ | ⟨g, cap, cur, rfl, _, _, hnc, _⟩
      · simp [Builtin.append_, run_underlying ht, sizeOf, typeInfo, hi, Builtin.lenOf, Builtin.firstCells]
      · simp [Builtin.append_, run_underlying ht, sizeOf, typeInfo, hi, Builtin.lenOf, Builtin.firstCells, hnc, storeCells]
    · obtain ⟨news, hnr, hnc⟩ := ReadsRow.inner_ HR
      have hnM : Reps (d.M W base okp) d.sz ys news := hnr.imp_ (fun p c hp => hKM p c hp)
      have hone : ∀ u ∈ news, u.oneCell' = true := by
        intro u hu
        obtain ⟨q, hq, rfl⟩ := List.mem_iff_getElem.1 hu
        have hql : q / d.sz < ys.length := by
          rw [Nat.div_lt_iff_lt_mul hs0]
          rw [← hnM.1]
          exact hq
        have hc := hnM.2 (q / d.sz) _ (List.getElem?_eq_getElem hql)
        refine d.K_one (d.K_of_M hc) _ ?_
        rw [List.mem_iff_getElem?]
        refine ⟨q % d.sz, ?_⟩
        rw [List.getElem?_take, if_pos (Nat.mod_lt _ hs0), List.getElem?_drop, Nat.mul_comm, Nat.div_add_mod, List.getElem?_eq_getElem hq]
      obtain ⟨v1, w1, hrun, h2, hg, _, hat⟩ := run_append_own_at (P := P) W base t o.type e i0 z d.sz bytes ht hi hz0 hz1 hz2 hz hs0 v xs.length inner hown ad m c news (by rw [hnM.1, hm]) hnc hone (by simp only [maxLen]; omega) hl hbase
      have hat' : v1.ownBlock = v.ownBlock ∨ ∃ b, v1.ownBlock = some b ∧ W.heap.size ≤ b := by
        rcases hat with hat | hat
        · exact .inl hat
        · exact .inr ⟨_, hat, Nat.le_refl _⟩
      have hne : ∀ k, some k ≠ v.ownBlock → k < W.heap.size → some k ≠ v1.ownBlock := by
        intro k hk hlt
        rcases hat' with hat | ⟨b, hb, hle⟩
        · rw [hat]; exact hk
        · rw [hb]
          intro he
          injection he with he
          omega
      have step : ∀ {q : α} {c : List Value} {o : Nat → Prop}, d.M W base o q c → (∀ k, o k → ok k ∧ some k ≠ v.ownBlock) → d.M w1 base (fun k => ok k ∧ some k ≠ v1.ownBlock) q c := by
        intro q c o hq ho
        have h1 := d.M_move (w1 := w1) (fun k hk => hg.block k hk.2.2.1 (ho k hk.1).2) (d.M_bound hq)
        exact d.M_mono (fun k hk => ⟨(ho k hk.1).1, hne k (ho k hk.1).2 hk.2.2.1⟩) h1
      refine ⟨v1, w1, hrun, ⟨fun k hk => ?_, inner ++ news, by rw [List.length_append, hm]; exact h2, reps_append (hr.imp_ (fun _ _ hq => step hq (fun _ hk => hk))) (hnM.imp_ (fun _ _ hq => step hq hokp))⟩, hg, hat'⟩
      rcases hat' with hat | ⟨b, hb, hle⟩
      · exact hok k (hat ▸ hk)
      · rw [hb] at hk
        injection hk with hk
        exact hfresh k (by omega)
  obtain ⟨v1, w1, hr1, h1, hg, hat⟩ := hrun
  rw [if_pos hw]
  unfold Oper.wp execOp
  simp only [ho, resolve, invoke, builtin, Sem.run_bind, Sem.run_pure, Result.andThen_ok, List.map_toArray, List.map_cons, List.map_nil, hs, hx, hr1]
  exact (h v1 w1 h1 (HB.grown hg hbase (own_base hown)) hg hat)
end
end Go.Proofs.Ytcbkcgnigncahaa.P
namespace Go.Proofs.Ytcbkcgnigncahaa.P
open Go.RowKit Go.Maps Go.Proofs.YtcbkcgnigncahaaW.PrintWords Go.Proofs.YtcbkcgnigncahaaW.PrintLast Go.Proofs.YtcbkcgnigncahaaW.PrintMore
set_option linter.unusedVariables false
set_option linter.unusedSimpArgs false
theorem LS.lower {base base' g b n : Nat} {s : Ln} {W : World} (h : LS base g b n s W) (hb : base' ≤ base) : LS base' g b n s W := by
  obtain ⟨h1, h2, ⟨v, h3, h4⟩, h5⟩ := h
  exact ⟨Nat.le_trans hb h1, Nat.le_trans hb h2, ⟨v, h3, Kd.R_lower h4 hb⟩, h5⟩
theorem RS.lower {base base' g : Nat} {r : Rf} {W : World} (h : RS base g r W) (hb : base' ≤ base) : RS base' g r W := by
  obtain ⟨h1, u, v, h3, h4, h5⟩ := h
  exact ⟨Nat.le_trans hb h1, u, v, h3, Kd.R_lower h4 hb, Kd.R_lower h5 hb⟩
structure Two (B g b m g2 b2 m2 n n2 : Nat) (s s2 : Ln) (r r2 : Rf) (W : World) : Prop where
  l1 : LS B g b n s W
  l2 : LS B g2 b2 n2 s2 W
  ap : Apart g b g2 b2 W
  r1 : RS B m r W
  r2 : RS B m2 r2 W
  rap : RApart m m2 W
section
variable {B g b m g2 b2 m2 n n2 : Nat} {s s2 s' : Ln} {r r2 r' : Rf} {W W' : World}
theorem Two.below (h : Two B g b m g2 b2 m2 n n2 s s2 r r2 W) (hb : Below W.heap.size W W') : Two B g b m g2 b2 m2 n n2 s s2 r r2 W' :=
  ⟨h.l1.below hb, h.l2.below hb, h.ap.below hb h.l1.lt h.l2.lt, h.r1.below hb, h.r2.below hb, h.rap.below hb h.r1.lt h.r2.lt⟩
end
end Go.Proofs.Ytcbkcgnigncahaa.P
