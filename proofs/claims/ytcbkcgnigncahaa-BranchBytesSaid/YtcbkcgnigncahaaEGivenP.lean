import Derived.Test.YtcbkcgnigncahaaEGivenJ
namespace Go.Proofs.Ytcbkcgnigncahaa.P
open Go.RowKit Go.Maps Go.Proofs.YtcbkcgnigncahaaW.PrintWords Go.Proofs.YtcbkcgnigncahaaW.PrintLast Go.Proofs.YtcbkcgnigncahaaW.PrintMore
attribute [local go_sem] max2_int min2_int max_two min_two max_three min_three max_four min_four
attribute [local go_sem] Oper.semAt_some
set_option linter.unusedVariables false
set_option linter.unusedSimpArgs false
/-- Every block of versions stands. -/
def Keep43 (W W' : World) : Prop := ∀ (i : Nat) (cs : Array Value), W.heap[i]? = some (Obj.cells cs 43 (0, 0)) → W'.heap[i]? = some (Obj.cells cs 43 (0, 0))
/-- What the iterator needs of the world: the line, its own two boxes. -/
def FromI (base g b m Bi Bl : Nat) (s : Ln) (i : Int) (W : World) : Prop :=
  LS base g b m s W ∧ i < s.V.length ∧ W.heap[Bl]? = some (.cells #[.pointer (some ⟨g, 0, none⟩)] 22 (0, 0)) ∧ W.heap[Bi]? = some (.cells #[.int .i64 i] 3 (0, 0))
def idAt (Bi : Nat) (W : World) : Int := intOf ((W.cell? ⟨Bi, 0, none⟩).getD undef)
theorem idAt_of {Bi : Nat} {i : Int} {W : World} (h : W.heap[Bi]? = some (.cells #[.int .i64 i] 3 (0, 0))) : idAt Bi W = i := by
  unfold idAt
  rw [show W.cell? ⟨Bi, 0, none⟩ = some (.int .i64 i) from blk_cell h 0]
  rfl
set_option maxRecDepth 100000 in
set_option maxHeartbeats 4000000 in
theorem from1_in (n l Bi Bl base g b m : Nat) (s : Ln) (J J' : Int → World → Prop) (Jx : World → Prop)
    (hJ : ∀ i W, J i W → FromI base g b m Bi Bl s i W) (hJ' : ∀ i W, J' i W → FromI base g b m Bi Bl s i W)
    (hJb : ∀ i W W', J i W → Below W.heap.size W W' → J i W')
    (hJs : ∀ i W, 0 ≤ i → J' i W → J (rd_T43 s.V i).f1 (W.setCell ⟨Bi, 0, none⟩ (.int .i64 (rd_T43 s.V i).f1)))
    (hY : ∀ i W, J i W → 0 ≤ i → YieldAt Fence.wide (n - 1) Try.prog l #[agg43 (rd_T43 s.V i)] W fun e W' => (e = .returned (.bool true) ∧ J' i W' ∧ Keep43 W W') ∨ (e = .returned (.bool false) ∧ Jx W'))
    (hok : LnOk s) (i0 : Int) (W : World) (h0 : J i0 W) :
    CallsIn Fence.wide n Try.prog 95 #[.func (.yield l) #[] #[], .pointer (some ⟨Bi, 0, none⟩), .pointer (some ⟨Bl, 0, none⟩)] W fun e W' => (∃ v, e = .returned v) ∧ ((∃ i, i < 0 ∧ J i W') ∨ Jx W') := by
  have hu43 := Try.underlying43
  refine callsIn_of_wp Try.func95 rfl trivial ?_ rfl
  simp only [Try.ntmps95, List.size_toArray, List.length_cons, List.length_nil, Nat.reduceAdd, Nat.reduceSub, Array.replicate_succ, Array.replicate_zero, List.push_toArray, List.append_toArray, List.nil_append, List.cons_append]
  have HOK := Aside0.mk hok
  clear hok
  gi_wp2
  gi_loopw [5] (fun v wr => Aside0 (∃ i, J i wr)) (fun _ wr => (idAt Bi wr + 1).toNat)
  case atStart => exact ⟨⟨_, h0⟩⟩
  case round =>
    obtain ⟨i, hj⟩ := hrel.out
    obtain ⟨w0, rfl⟩ : ∃ w0 : World, w0 = wr := ⟨_, rfl⟩
    obtain ⟨hL, hi, hBl, hBi⟩ := hJ i w0 hj
    have k1 : w0.cell? ⟨Bi, 0, none⟩ = some (.int .i64 i) := blk_cell hBi 0
    clear hrel
    by_cases h0 : 0 ≤ i
    · have k2 : w0.cell? ⟨Bl, 0, none⟩ = some (.pointer (some ⟨g, 0, none⟩)) := blk_cell hBl 0
      obtain ⟨A, c, hb, hR⟩ := hL.block
      have k3 : w0.cell? ⟨g, 1, none⟩ = some (.slice A s.V.length c) := blk_cell hb 1
      have hcap := (Kd.R_reads' hR).2.1
      obtain ⟨ad, e9, y0, y1, y2, y3, y4, y5, y6, y7⟩ := at_T43 (Kd.R_reads' hR).2.2 i h0 hi
      obtain rfl := e9
      have HID := Aside0.mk (idAt_of hBi)
      clear hb hR hL hBl hBi
      gi_wp2
      refine wpIn_wide.2 ?_
      have n0 := World.new_ne w0 _ k1
      have n1 := World.new_ne w0 _ k2
      have n2 := World.new_ne w0 _ k3
      have n3 := World.new_ne w0 _ y0
      have n4 := World.new_ne w0 _ y1
      have n5 := World.new_ne w0 _ y2
      have n6 := World.new_ne w0 _ y3
      have n7 := World.new_ne w0 _ y4
      have n8 := World.new_ne w0 _ y5
      have n9 := World.new_ne w0 _ y6
      have n10 := World.new_ne w0 _ y7
      go_region_held3 (fun w' => w'.cell? ⟨Bi, 0, none⟩ = some (.int .i64 i) ∧ w'.cell? ⟨Bl, 0, none⟩ = some (.pointer (some ⟨g, 0, none⟩)) ∧ w'.cell? ⟨g, 1, none⟩ = some (.slice (some ad) s.V.length c) ∧
          w'.cell? (ad.add (i.toNat * 8)) = some (Value.int IntKind.i64 (rd_T43 s.V i).f0) ∧
          w'.cell? ⟨(ad.add (i.toNat * 8)).block, (ad.add (i.toNat * 8)).off + 1, none⟩ = some (Value.int IntKind.i64 (rd_T43 s.V i).f1) ∧
          w'.cell? ⟨(ad.add (i.toNat * 8)).block, (ad.add (i.toNat * 8)).off + 2, none⟩ = some (Value.string (rd_T43 s.V i).f2) ∧
          w'.cell? ⟨(ad.add (i.toNat * 8)).block, (ad.add (i.toNat * 8)).off + 3, none⟩ = some (Value.int IntKind.i64 (rd_T43 s.V i).f3) ∧
          w'.cell? ⟨(ad.add (i.toNat * 8)).block, (ad.add (i.toNat * 8)).off + 4, none⟩ = some (Value.int IntKind.i64 (rd_T43 s.V i).f4) ∧
          w'.cell? ⟨(ad.add (i.toNat * 8)).block, (ad.add (i.toNat * 8)).off + 5, none⟩ = some (Value.int IntKind.i64 (rd_T43 s.V i).f5) ∧
          w'.cell? ⟨(ad.add (i.toNat * 8)).block, (ad.add (i.toNat * 8)).off + 6, none⟩ = some (Value.int IntKind.u64 (rd_T43 s.V i).f6) ∧
          w'.cell? ⟨(ad.add (i.toNat * 8)).block, (ad.add (i.toNat * 8)).off + 7, none⟩ = some (Value.bool (rd_T43 s.V i).f7))
        (first | exact ⟨k1, k2, k3, y0, y1, y2, y3, y4, y5, y6, y7⟩ | go_keep) (first | fail)
      clear k1 k2 k3 y0 y1 y2 y3 y4 y5 y6 y7 n0 n1 n2 n3 n4 n5 n6 n7 n8 n9 n10 hcap
      obtain ⟨w1, hw1⟩ : ∃ w1, (w0.alloc (.cells #[.int .i64 (rd_T43 s.V i).f0, .int .i64 (rd_T43 s.V i).f1, .string (rd_T43 s.V i).f2, .int .i64 (rd_T43 s.V i).f3, .int .i64 (rd_T43 s.V i).f4, .int .i64 (rd_T43 s.V i).f5, .int .u64 (rd_T43 s.V i).f6, .bool (rd_T43 s.V i).f7] 43)).drew = w1 := ⟨_, rfl⟩
      rw [hw1]
      have hb1 : Below w0.heap.size w0 w1 := by rw [← hw1]; exact below_drew1 (below_alloc (Below.refl _ _) _)
      have hv1 : w1.heap[w0.heap.size]? = some (.cells #[.int .i64 (rd_T43 s.V i).f0, .int .i64 (rd_T43 s.V i).f1, .string (rd_T43 s.V i).f2, .int .i64 (rd_T43 s.V i).f3, .int .i64 (rd_T43 s.V i).f4, .int .i64 (rd_T43 s.V i).f5, .int .u64 (rd_T43 s.V i).f6, .bool (rd_T43 s.V i).f7] 43 (0, 0)) := by
        rw [← hw1]; exact blk_drew (blk_new w0 _)
      have HJ1 := hJb i w0 w1 hj hb1
      clear hw1
      obtain ⟨fn, tmps, assign, body, hy, hR⟩ := hY i w1 HJ1 h0
      unfold agg43 at hy
      have d0 : w1.cell? ⟨w0.heap.size, 0, none⟩ = some _ := blk_cell hv1 0
      have d1 : w1.cell? ⟨w0.heap.size, 1, none⟩ = some _ := blk_cell hv1 1
      have d2 : w1.cell? ⟨w0.heap.size, 2, none⟩ = some _ := blk_cell hv1 2
      have d3 : w1.cell? ⟨w0.heap.size, 3, none⟩ = some _ := blk_cell hv1 3
      have d4 : w1.cell? ⟨w0.heap.size, 4, none⟩ = some _ := blk_cell hv1 4
      have d5 : w1.cell? ⟨w0.heap.size, 5, none⟩ = some _ := blk_cell hv1 5
      have d6 : w1.cell? ⟨w0.heap.size, 6, none⟩ = some _ := blk_cell hv1 6
      have d7 : w1.cell? ⟨w0.heap.size, 7, none⟩ = some _ := blk_cell hv1 7
      have HV1 := Aside0.mk hv1
      clear hv1 hb1
      gi_wp2
      clear d0 d1 d2 d3 d4 d5 d6 d7
      refine ⟨(fun h => (by cases h)), hR.mono ?_⟩
      clear hR hy
      rintro e W3 (⟨rfl, hJ3, hk3⟩ | ⟨rfl, hJx3⟩)
      · have hv3 := hk3 _ _ HV1.out
        have e1 : W3.cell? ⟨w0.heap.size, 1, none⟩ = some (.int .i64 (rd_T43 s.V i).f1) := blk_cell hv3 1
        obtain ⟨hL3, hi3, hBl3, hBi3⟩ := hJ' i W3 hJ3
        have k1 : W3.cell? ⟨Bi, 0, none⟩ = some (.int .i64 i) := blk_cell hBi3 0
        have z1 : W3.frozen? ⟨Bi, 0, none⟩ = false := blk_frozen hBi3 0
        have hpar := HOK.out i h0 hi
        have hnew := hJs i W3 h0 hJ3
        clear hL3 hBl3 hv3
        gi_wp2
        go_roundw
        case rel => exact ⟨⟨_, hnew⟩⟩
        case measure =>
          rw [idAt_of (blk_put hBi3 0 _ rfl), HID.out]
          omega
      · gi_wp2
        refine bodyPost_ret (results_none rfl _ _ _) rfl ?_
        exact ⟨⟨_, rfl⟩, .inr hJx3⟩
    · gi_wp2
      go_end0
      exact ⟨⟨_, rfl⟩, .inl ⟨i, by omega, hj⟩⟩
end Go.Proofs.Ytcbkcgnigncahaa.P
namespace Go.Proofs.Ytcbkcgnigncahaa.P
open Go.RowKit Go.Maps
set_option linter.unusedVariables false
set_option linter.unusedSimpArgs false
variable {F : Fence} {n : Nat} {P : Program}
/-- How a round may end, with what is asked there of the world in which the record is settled. -/
def endsRound (l : Nat) (rec : LoopState → Option Code → Loop) (R : Ending → World → Prop) : Exit → Act → World → Prop
  | .normal, _, w => w.heap[l]? = some (.loop (rec .busy none)) ∧ R (.returned (.bool true)) (w.putObj l (.loop (rec .ready none)))
  | .ret, _, w => w.heap[l]? = some (.loop (rec .busy none)) ∧ R (.returned (.bool false)) (w.putObj l (.loop (rec .done (some .ret))))
  | _, _, _ => False
def recOf (fn : FuncId) (tmps : Array Value) (ps : Array Tmp) (assign body : Code) (D : Nat) : LoopState → Option Code → Loop := fun st pe => { state := st, pending := pe, fn := fn, tmps := tmps, params := ps, assign := assign, body := body, defers := D }
theorem yields_of {l fn D : Nat} {tmps : Array Value} {ps : Array Tmp} {assign body : Code} {rec : LoopState → Option Code → Loop} (hrec : recOf fn tmps ps assign body D = rec) (hF : F.fn fn) {W : World} (hl : W.heap[l]? = some (.loop (rec .ready none))) {args : Array Value} (hs : args.size = ps.size) {R : Ending → World → Prop}
    (h : assign.wpIn (F.inRound l) n P (Exit.then (fun a₁ w₁ => w₁.heap[l]? = some (.loop (rec .ready none)) ∧ body.wpIn (F.inRound l) n P (endsRound l rec R) a₁ (w₁.putObj l (.loop (rec .busy none)))) (fun _ _ _ => False))
      { tmps := (ps.zip args).foldl (fun t (p, v) => t.setIfInBounds p v) tmps, defers := [] } W) :
    YieldAt F n P l args W R := by
  subst hrec
  have hy := run_yield (P := P) (args := args) hl hs
  refine ⟨fn, _, assign, body, hy, roundIn_of_wpIn hF (wpIn_mono h ?_)⟩
  intro e a₁ w₁ hq
  cases e with
  | normal =>
    obtain ⟨h1, h2⟩ := hq
    refine ⟨_, run_beginRound h1 rfl, wpIn_mono h2 ?_⟩
    intro e a₂ w₂ hq2
    cases e with
    | normal => exact ⟨_, _, run_endRound none hq2.1, hq2.2⟩
    | ret => exact ⟨_, _, run_endRound (some .ret) hq2.1, hq2.2⟩
    | exit id => exact hq2.elim
    | goto t => exact hq2.elim
    | panic c => exact hq2.elim
    | outgrown => exact hq2.elim
  | ret => exact hq.elim
  | exit id => exact hq.elim
  | goto t => exact hq.elim
  | panic c => exact hq.elim
  | outgrown => exact hq.elim
theorem ranges_of {g : Operand} {ps : Array Tmp} {assign body : Code} {Q : Exit → Act → World → Prop} {a : Act} {w : World} (hro : F.round = none) (h1 : 1 ≤ n) {gf : Nat} {lb : Array Value} (hg : a.eval g = .func (.func gf) #[] lb) (hFg : F.fn gf)
    (eg : ∀ args w, (callFunc gf args).run P w = .ok (.enter gf args) w)
    (h : ∀ (fn l D : Nat) (rec : LoopState → Option Code → Loop) (W1 : World), F.fn fn → recOf fn a.tmps ps assign body D = rec → D = w.heap.size → l = w.heap.size + 1 → W1 = (w.alloc (.deferred (some []))).alloc (.loop (rec .ready none)) →
      CallsIn F (n - 1) P gf (#[.func (.yield l) #[] #[]] ++ lb) W1 fun e W' => (∃ v, e = .returned v) ∧ ((∃ st, st ≠ .busy ∧ W'.heap[l]? = some (.loop (rec st none)) ∧ Q .normal { a with defers := { target := .collected D, args := #[] } :: a.defers } (W'.putObj l (.loop (rec .exhausted none)))) ∨
        (∃ st c, st ≠ .busy ∧ W'.heap[l]? = some (.loop (rec st (some c))) ∧ c.wpIn F n P Q { a with defers := { target := .collected D, args := #[] } :: a.defers } (W'.putObj l (.loop (rec .exhausted (some c))))))) :
    (Code.rangeFunc g ps assign body).wpIn F n P Q a w := by
  refine wpIn_rangeFunc ?_
  intro fn hfn
  rw [hro]
  obtain ⟨rec, hrec⟩ : ∃ rec, recOf fn a.tmps ps assign body w.heap.size = rec := ⟨_, rfl⟩
  obtain ⟨W1, hW1⟩ : ∃ W1, (w.alloc (.deferred (some []))).alloc (.loop (rec .ready none)) = W1 := ⟨_, rfl⟩
  have hh := h fn (w.heap.size + 1) w.heap.size rec W1 hfn hrec rfl rfl hW1.symm
  have he : (Instr.enterLoop fn a.tmps ps assign body none).run P w = .ok (w.heap.size + 1, [{ target := .collected w.heap.size, args := #[] }]) W1 := by
    rw [← hW1, ← hrec]
    exact run_enterLoop_outer _ _ _ _ _
  have hend : ∀ (W2 : World) (st : LoopState) (pe : Option Code), W2.heap[w.heap.size + 1]? = some (.loop (rec st pe)) → st ≠ .busy → (Instr.endLoop (w.heap.size + 1)).run P W2 = .ok pe (W2.putObj (w.heap.size + 1) (.loop (rec .exhausted pe))) := by
    intro W2 st pe hl hst
    subst hrec
    exact run_endLoop hl hst
  refine ⟨w.heap.size + 1, [{ target := .collected w.heap.size, args := #[] }], W1, { target := .fn (.func gf) lb, args := #[.func (.yield (w.heap.size + 1)) #[] #[]] }, W1, gf,
    #[.func (.yield (w.heap.size + 1)) #[] #[]] ++ lb, W1, he, ?_, ?_, ?_, fun _ => h1, ?_⟩
  · simp only [resolve, hg]
    simp [go_sem]
  · intro f' hf'
    simp [Target.leads] at hf'
    subst hf'
    exact hFg
  · simp [invoke, go_sem, eg]
  · refine hh.mono ?_
    rintro e W2 ⟨⟨v, rfl⟩, (⟨st, hst, hl, hQ⟩ | ⟨st, c, hst, hl, hQ⟩)⟩
    · exact ⟨none, _, hend W2 st none hl hst, hQ⟩
    · exact ⟨some c, _, hend W2 st (some c) hl hst, hQ⟩
end Go.Proofs.Ytcbkcgnigncahaa.P
namespace Go.Proofs.Ytcbkcgnigncahaa.P
open Go.RowKit Go.Maps Go.Proofs.YtcbkcgnigncahaaW.PrintWords Go.Proofs.YtcbkcgnigncahaaW.PrintLast Go.Proofs.YtcbkcgnigncahaaW.PrintMore
attribute [local go_sem] max2_int min2_int max_two min_two max_three min_three max_four min_four
attribute [local go_sem] Oper.semAt_some
set_option linter.unusedVariables false
set_option linter.unusedSimpArgs false
/-- The first open version from i upwards that p takes; -1: none. -/
def searchGo (s : Ln) (p : S43 → Bool) : Nat → Int → Int
  | 0, _ => -1
  | k + 1, i => if i < 0 then -1 else if (!(rd_T43 s.V i).f7 && p (rd_T43 s.V i)) = true then (rd_T43 s.V i).f0 else searchGo s p k (rd_T43 s.V i).f1
theorem searchGo_neg (s : Ln) (p : S43 → Bool) (k : Nat) (i : Int) (h : i < 0) : searchGo s p k i = -1 := by
  cases k with
  | zero => rfl
  | succ k => simp only [searchGo]; rw [if_pos h]
def searchF (s : Ln) (name : ByteArray) (p : S43 → Bool) : Int × Int :=
  if hasB s.D name = false then (-1, 6) else (searchGo s p (s.V.length + 1) (firstF (lkp s.D name)), 0)
theorem results_cells {fn : Func} {p p' : Tmp} (h : fn.results = #[.cell p 3, .cell p' 25]) (tmps : Array Value) (W : World) (g g' : Nat) (v e : Int)
    (hp : tmps[p]?.getD undef = .pointer (some ⟨g, 0, none⟩)) (hp' : tmps[p']?.getD undef = .pointer (some ⟨g', 0, none⟩))
    (hg : W.cell? ⟨g, 0, none⟩ = some (.int .i64 v)) (hg' : W.cell? ⟨g', 0, none⟩ = some (.int .i64 e)) :
    (results fn tmps).run Try.prog W = .ok (.tuple #[.int .i64 v, .int .i64 e]) W := by
  simp only [results, h, hp, hp']
  go_simp
theorem two_new (w : World) (x y : Obj) (a c : Value) : ((((w.alloc x).alloc (.cells #[a] 3)).alloc (.cells #[c] 25)).alloc y).cell? ⟨w.heap.size + 1, 0, none⟩ = some a ∧ ((((w.alloc x).alloc (.cells #[a] 3)).alloc (.cells #[c] 25)).alloc y).cell? ⟨w.heap.size + 1 + 1, 0, none⟩ = some c := by
  have h1 := blk_alloc (blk_alloc (blk_new (w.alloc x) (.cells #[a] 3)) (.cells #[c] 25)) y
  have h2 := blk_alloc (blk_new ((w.alloc x).alloc (.cells #[a] 3)) (.cells #[c] 25)) y
  simp only [World.size_alloc] at h1 h2
  exact ⟨blk_cell h1 0, blk_cell h2 0⟩
/-- The blocks of search and of its iterator: the predicate, the two results, the iterator's line and id, the block for deferred calls, the loop's record. -/
def SJ (w : World) (N g pf : Nat) (lb : Array Value) (L : Loop) (i r6 : Int) (W : World) : Prop :=
  Below w.heap.size w W ∧ W.heap[w.heap.size]? = some (.cells #[.func (.func pf) #[] lb] 91 (0, 0)) ∧ W.heap[w.heap.size + 1]? = some (.cells #[.int .i64 r6] 3 (0, 0)) ∧ W.heap[w.heap.size + 1 + 1]? = some (.cells #[.int .i64 0] 25 (0, 0)) ∧
    W.heap[N]? = some (.cells #[.pointer (some ⟨g, 0, none⟩)] 22 (0, 0)) ∧ W.heap[N + 1]? = some (.cells #[.int .i64 i] 3 (0, 0)) ∧ W.heap[N + 1 + 1]? = some (.deferred (some [])) ∧ W.heap[N + 1 + 1 + 1]? = some (.loop L)
theorem SJ.below {w : World} {N g pf : Nat} {lb : Array Value} {L : Loop} {i r6 : Int} {W W' : World} (h : SJ w N g pf lb L i r6 W) (hb : Below W.heap.size W W') : SJ w N g pf lb L i r6 W' := by
  obtain ⟨h1, h2, h3, h4, h5, h6, h7, h8⟩ := h
  exact ⟨below_step h1 hb, blk_below h2 hb, blk_below h3 hb, blk_below h4 hb, blk_below h5 hb, blk_below h6 hb, (hb.block _ (Array.getElem?_eq_some_iff.1 h7).1).trans h7, (hb.block _ (Array.getElem?_eq_some_iff.1 h8).1).trans h8⟩
theorem SJ.rec_ {w : World} {N g pf : Nat} {lb : Array Value} {L L' : Loop} {i r6 : Int} {W : World} (h : SJ w N g pf lb L i r6 W) (hN : w.heap.size + 4 ≤ N) : SJ w N g pf lb L' i r6 (W.putObj (N + 1 + 1 + 1) (.loop L')) := by
  obtain ⟨h1, h2, h3, h4, h5, h6, h7, h8⟩ := h
  have ho : ∀ k, k ≠ N + 1 + 1 + 1 → (W.putObj (N + 1 + 1 + 1) (.loop L')).heap[k]? = W.heap[k]? := fun k hk => World.putObj_heap_other hk
  refine ⟨h1.trans ⟨rfl, rfl, rfl, by simp, fun k hk => ho k (by omega)⟩, (ho _ (by omega)).trans h2, (ho _ (by omega)).trans h3, (ho _ (by omega)).trans h4, (ho _ (by omega)).trans h5, (ho _ (by omega)).trans h6, (ho _ (by omega)).trans h7, World.putObj_heap_same (Array.getElem?_eq_some_iff.1 h8).1⟩
theorem SJ.store {w : World} {N g pf : Nat} {lb : Array Value} {L : Loop} {i r6 : Int} {W : World} (h : SJ w N g pf lb L i r6 W) (hN : w.heap.size + 4 ≤ N) (i' : Int) : SJ w N g pf lb L i' r6 (W.setCell ⟨N + 1, 0, none⟩ (.int .i64 i')) := by
  obtain ⟨h1, h2, h3, h4, h5, h6, h7, h8⟩ := h
  have ho : ∀ k, k ≠ N + 1 → (W.setCell ⟨N + 1, 0, none⟩ (.int .i64 i')).heap[k]? = W.heap[k]? := fun k hk => Below.heap_setCell W ⟨N + 1, 0, none⟩ _ k hk
  exact ⟨h1.setCell (p := ⟨N + 1, 0, none⟩) (by show w.heap.size ≤ N + 1; omega) _, (ho _ (by omega)).trans h2, (ho _ (by omega)).trans h3, (ho _ (by omega)).trans h4, (ho _ (by omega)).trans h5, blk_put h6 0 _ rfl, (ho _ (by omega)).trans h7, (ho _ (by omega)).trans h8⟩
theorem SJ.res {w : World} {N g pf : Nat} {lb : Array Value} {L : Loop} {i r6 : Int} {W : World} (h : SJ w N g pf lb L i r6 W) (hN : w.heap.size + 4 ≤ N) (r : Int) : SJ w N g pf lb L i r ((W.setCell ⟨w.heap.size + 1, 0, none⟩ (.int .i64 r)).setCell ⟨w.heap.size + 1 + 1, 0, none⟩ (.int .i64 0)) := by
  obtain ⟨h1, h2, h3, h4, h5, h6, h7, h8⟩ := h
  have ho : ∀ k, k ≠ w.heap.size + 1 → k ≠ w.heap.size + 1 + 1 → ((W.setCell ⟨w.heap.size + 1, 0, none⟩ (.int .i64 r)).setCell ⟨w.heap.size + 1 + 1, 0, none⟩ (.int .i64 0)).heap[k]? = W.heap[k]? := fun k hk hk2 => by
    rw [Below.heap_setCell _ _ _ k hk2, Below.heap_setCell _ _ _ k hk]
  refine ⟨(h1.setCell (p := ⟨w.heap.size + 1, 0, none⟩) (by show w.heap.size ≤ w.heap.size + 1; omega) _).setCell (p := ⟨w.heap.size + 1 + 1, 0, none⟩) (by show w.heap.size ≤ w.heap.size + 1 + 1; omega) _, (ho _ (by omega) (by omega)).trans h2, ?_, ?_, (ho _ (by omega) (by omega)).trans h5, (ho _ (by omega) (by omega)).trans h6, (ho _ (by omega) (by omega)).trans h7, (ho _ (by omega) (by omega)).trans h8⟩
  · rw [Below.heap_setCell _ _ _ _ (by show w.heap.size + 1 ≠ w.heap.size + 1 + 1; omega)]
    exact blk_put h3 0 _ rfl
  · have h4' : (W.setCell ⟨w.heap.size + 1, 0, none⟩ (.int .i64 r)).heap[w.heap.size + 1 + 1]? = some (.cells #[.int .i64 0] 25 (0, 0)) := by
      rw [Below.heap_setCell _ _ _ _ (by show w.heap.size + 1 + 1 ≠ w.heap.size + 1; omega)]
      exact h4
    exact blk_put h4' 0 _ rfl
theorem SJ.leave {w : World} {N g pf : Nat} {lb : Array Value} {L : Loop} {i r6 : Int} {W : World} (h : SJ w N g pf lb L i r6 W) (hN : w.heap.size + 4 ≤ N) (o : Obj) : (W.putObj (N + 1 + 1) o).cell? ⟨w.heap.size + 1, 0, none⟩ = some (.int .i64 r6) ∧ (W.putObj (N + 1 + 1) o).cell? ⟨w.heap.size + 1 + 1, 0, none⟩ = some (.int .i64 0) ∧ Below w.heap.size w (W.putObj (N + 1 + 1) o) := by
  obtain ⟨h1, h2, h3, h4, h5, h6, h7, h8⟩ := h
  have ho : ∀ k, k ≠ N + 1 + 1 → (W.putObj (N + 1 + 1) o).heap[k]? = W.heap[k]? := fun k hk => World.putObj_heap_other hk
  exact ⟨blk_cell ((ho _ (by omega)).trans h3) 0, blk_cell ((ho _ (by omega)).trans h4) 0, h1.trans ⟨rfl, rfl, rfl, by simp, fun k hk => ho k (by omega)⟩⟩
theorem Keep43.trans {A B C : World} (h : Keep43 A B) (k : Keep43 B C) : Keep43 A C := fun i cs hi => k i cs (h i cs hi)
theorem Keep43.of_below {A B : World} (h : Below A.heap.size A B) : Keep43 A B := fun i cs hi => blk_below hi h
theorem Keep43.rec_ {W : World} {l : Nat} {L : Loop} (o : Obj) (hl : W.heap[l]? = some (.loop L)) : Keep43 W (W.putObj l o) := fun i cs hi => by
  refine (World.putObj_heap_other ?_).trans hi
  rintro rfl
  rw [hl] at hi
  cases hi
theorem search_step {s : Ln} {p : S43 → Bool} {i r : Int} (h0 : 0 ≤ i) (hpar : (rd_T43 s.V i).f1 < i) (h : ∃ k, (i + 1).toNat ≤ k ∧ searchGo s p k i = r) :
    ((!(rd_T43 s.V i).f7 && p (rd_T43 s.V i)) = true → (rd_T43 s.V i).f0 = r) ∧ ((!(rd_T43 s.V i).f7 && p (rd_T43 s.V i)) = false → ∃ k, ((rd_T43 s.V i).f1 + 1).toNat ≤ k ∧ searchGo s p k (rd_T43 s.V i).f1 = r) := by
  obtain ⟨k, hk, hg⟩ := h
  obtain ⟨k', rfl⟩ : ∃ k', k = k' + 1 := ⟨k - 1, by omega⟩
  simp only [searchGo] at hg
  rw [if_neg (by omega)] at hg
  constructor
  · intro hc
    rw [if_pos hc] at hg
    exact hg
  · intro hc
    rw [if_neg (by rw [hc]; decide)] at hg
    exact ⟨k', by omega, hg⟩
set_option maxRecDepth 100000 in
set_option maxHeartbeats 8000000 in
theorem search_in (base g b m : Nat) (s : Ln) (name : ByteArray) (pf : Nat) (lb : Array Value) (p : S43 → Bool) (w : World) (hs0 : LS base g b m s w) (hs : name.size ≤ maxLen) (hok : LnOk s) (hfst : hasB s.D name = true → firstF (lkp s.D name) < s.V.length)
    (eg : ∀ args w, (callFunc pf args).run Try.prog w = .ok (.enter pf args) w)
    (hp : ∀ x W, Below w.heap.size w W → Calls Try.prog pf (#[agg43 x] ++ lb) W fun e W' => e = .returned (.bool (p x)) ∧ Below W.heap.size W W') :
    Calls Try.prog 46 #[.pointer (some ⟨g, 0, none⟩), .string name, .func (.func pf) #[] lb] w fun e w' => e = .returned (.tuple #[.int .i64 (searchF s name p).1, .int .i64 (searchF s name p).2]) ∧ Below w.heap.size w w' := by
  have hu43 := Try.underlying43
  have hu80 := Try.underlying80
  have HS := Aside0.mk hs0
  have HOK := Aside0.mk hok
  have HP := Aside0.mk hp
  have HFST := Aside0.mk hfst
  have EG := Aside0.mk eg
  have HOW := Aside0.mk hs0.2.2.2
  have hb3 : Below w.heap.size w (((w.alloc (.cells #[.func (.func pf) #[] lb] 91)).alloc (.cells #[.int .i64 0] 3)).alloc (.cells #[.int .i64 0] 25)) := below_alloc (below_alloc (below_alloc (Below.refl _ _) _) _) _
  obtain ⟨A0, cc0, c0, c1, z1, hx1, hx2, hx3, hx4⟩ := (hs0.below hb3).cells
  clear hx1 hx2 hx3 hx4 hb3
  clear hs0 hok hp hfst eg c1 z1
  refine (callsIn_wide (n := 5)).1 ?_
  refine callsIn_of_wp_marks Try.func46 rfl trivial ?_ rfl
  simp only [Try.ntmps46, List.size_toArray, List.length_cons, List.length_nil, Nat.reduceAdd, Nat.reduceSub, Array.replicate_succ, Array.replicate_zero, List.push_toArray, List.append_toArray, List.nil_append, List.cons_append]
  refine wpIn_wide.2 ?_
  cases hh : hasB s.D name with
  | false =>
    have hf : searchF s name p = (-1, 6) := by unfold searchF; rw [if_pos hh]
    have HF := Aside0.mk hf
    clear hf
    go_wp2_with (first
      | (at_lookup; refine lookup_line _ rfl _ _ rfl b m s.D name rfl rfl ((((HOW.out.alloc _).alloc _).alloc _)) hs ?_)
      | fail)
    refine ⟨_, results_cells rfl _ _ (w.heap.size + 1) (w.heap.size + 1 + 1) (-1) 6 rfl rfl (two_new w _ _ _ _).1 (two_new w _ _ _ _).2, ?_, ?_⟩
    · rw [HF.out]
    · exact below_alloc (below_alloc (below_alloc (below_alloc (Below.refl _ _) _) _) _) _
  | true =>
    go_upto_region 4 with (first
      | (at_lookup; refine lookup_line _ rfl _ _ rfl b m s.D name rfl rfl ((((HOW.out.alloc _).alloc _).alloc _)) hs ?_)
      | fail)
    go_wp2_with (first
      | (go_at_call 42; (with_reducible refine (first_c _ _ _).mono ?_); rintro e w2 ⟨rfl, hb2⟩; have HB2 := Aside0.mk hb2; clear hb2)
      | (go_at_call 85; (with_reducible refine (from_calls g _ _).mono ?_); rintro e w3 ⟨rfl, rfl⟩)
      | fail)
    have hN : w.heap.size + 4 ≤ w2.heap.size := by have := HB2.out.size; simp at this; omega
    have b5 := blk_below (blk_alloc (blk_alloc (blk_alloc (blk_new w (.cells #[.func (.func pf) #[] lb] 91)) (.cells #[.int .i64 0] 3)) (.cells #[.int .i64 0] 25)) (.cells #[.int .i64 (lkp s.D name).1, .int .i64 (lkp s.D name).2] 80)) HB2.out
    have b6 := blk_below (blk_alloc (blk_alloc (blk_new (w.alloc (.cells #[.func (.func pf) #[] lb] 91)) (.cells #[.int .i64 0] 3)) (.cells #[.int .i64 0] 25)) (.cells #[.int .i64 (lkp s.D name).1, .int .i64 (lkp s.D name).2] 80)) HB2.out
    have b7 := blk_below (blk_alloc (blk_new ((w.alloc (.cells #[.func (.func pf) #[] lb] 91)).alloc (.cells #[.int .i64 0] 3)) (.cells #[.int .i64 0] 25)) (.cells #[.int .i64 (lkp s.D name).1, .int .i64 (lkp s.D name).2] 80)) HB2.out
    have hbw : Below w.heap.size w w2 := below_step (below_alloc (below_alloc (below_alloc (below_alloc (Below.refl _ _) _) _) _) _) HB2.out
    simp only [World.size_alloc] at b6 b7
    have HQ := Aside0.mk b5
    have HQ6 := Aside0.mk b6
    have HQ7 := Aside0.mk b7
    have HQW := Aside0.mk hbw
    clear b5 b6 b7 hbw HB2 c0 HOW
    obtain ⟨i0, hi0⟩ : ∃ i0, firstF ((lkp s.D name).1, (lkp s.D name).2) = i0 := ⟨_, rfl⟩
    rw [hi0]
    refine (wpIn_wide (n := 5)).1 ?_
    refine ranges_of rfl (by omega) (gf := 95) (lb := #[.pointer (some ⟨w2.heap.size + 1, 0, none⟩), .pointer (some ⟨w2.heap.size, 0, none⟩)]) rfl trivial (enters_of Try.func95 (by kernel_rfl) rfl) ?_
    intro fn l D rec W1 hfn hrec hD hl hW1
    simp only [World.size_alloc] at hD hl
    obtain rfl := hD
    obtain rfl := hl
    dsimp only at hrec
    obtain ⟨N, hNN⟩ : ∃ N, w2.heap.size = N := ⟨_, rfl⟩
    obtain ⟨r, hr⟩ : ∃ r, searchGo s p (s.V.length + 1) i0 = r := ⟨_, rfl⟩
    have hSJ : SJ w N g pf lb (rec .ready none) i0 0 W1 := by
      rw [hW1, ← hNN]
      have h1 := blk_new w2 (.cells #[.pointer (some ⟨g, 0, none⟩)] 22)
      have h2 := blk_new (w2.alloc (.cells #[.pointer (some ⟨g, 0, none⟩)] 22)) (.cells #[.int .i64 i0] 3)
      have h3 := World.alloc_heap_new ((w2.alloc (.cells #[.pointer (some ⟨g, 0, none⟩)] 22)).alloc (.cells #[.int .i64 i0] 3)) (.deferred (some []))
      have h4 := World.alloc_heap_new (((w2.alloc (.cells #[.pointer (some ⟨g, 0, none⟩)] 22)).alloc (.cells #[.int .i64 i0] 3)).alloc (.deferred (some []))) (.loop (rec .ready none))
      simp only [World.size_alloc] at h2 h3 h4
      refine ⟨below_alloc (below_alloc (below_alloc (below_alloc HQW.out _) _) _) _, ?_, ?_, ?_, ?_, ?_, ?_, h4⟩
      · exact blk_alloc (blk_alloc (blk_alloc (blk_alloc HQ.out _) _) _) _
      · exact blk_alloc (blk_alloc (blk_alloc (blk_alloc HQ6.out _) _) _) _
      · exact blk_alloc (blk_alloc (blk_alloc (blk_alloc HQ7.out _) _) _) _
      · exact blk_alloc (blk_alloc (blk_alloc h1 _) _) _
      · exact blk_alloc (blk_alloc h2 _) _
      · exact (Below.heap_alloc _ _ _ (by simp)).trans h3
    have HREC := Aside0.mk hrec
    have HSJ := Aside0.mk hSJ
    have hi0l : i0 < s.V.length := by rw [← hi0]; exact HFST.out hh
    clear hrec hSJ hW1
    have HI0 := Aside0.mk hi0
    clear hi0
    rw [hNN] at hN HREC
    rw [hNN]
    refine (from1_in 4 (N + 1 + 1 + 1) (N + 1) N base g b m s (fun i W => SJ w N g pf lb (rec .ready none) i 0 W ∧ i < s.V.length ∧ ∃ k, (i + 1).toNat ≤ k ∧ searchGo s p k i = r)
      (fun i W => SJ w N g pf lb (rec .ready none) i 0 W ∧ i < s.V.length ∧ ∃ k, ((rd_T43 s.V i).f1 + 1).toNat ≤ k ∧ searchGo s p k (rd_T43 s.V i).f1 = r)
      (fun W => ∃ i, SJ w N g pf lb (rec .done (some .ret)) i r W) ?_ ?_ ?_ ?_ ?_ HOK.out i0 W1 ?_).mono ?_
    · exact fun i W h => ⟨HS.out.below h.1.1, h.2.1, h.1.2.2.2.2.1, h.1.2.2.2.2.2.1⟩
    · exact fun i W h => ⟨HS.out.below h.1.1, h.2.1, h.1.2.2.2.2.1, h.1.2.2.2.2.2.1⟩
    · exact fun i W W' h hb => ⟨h.1.below hb, h.2⟩
    · intro i W h0 h
      have := HOK.out i h0 h.2.1
      exact ⟨h.1.store hN _, by omega, h.2.2⟩
    · intro i W h h0
      refine yields_of HREC.out hfn h.1.2.2.2.2.2.2.2 rfl ?_
      unfold agg43
      have HW := Aside0.mk h.1
      have HI := Aside0.mk h.2.1
      have HST := Aside0.mk (search_step h0 (HOK.out i h0 h.2.1) h.2.2)
      clear h
      gi_wp2
      obtain ⟨x, hx⟩ : ∃ x, rd_T43 s.V i = x := ⟨_, rfl⟩
      rw [hx] at HST ⊢
      have hA := HW.out.below (below_alloc (Below.refl _ _) (.cells #[.int .i64 x.f0, .int .i64 x.f1, .string x.f2, .int .i64 x.f3, .int .i64 x.f4, .int .i64 x.f5, .int .u64 x.f6, .bool x.f7] 43))
      refine ⟨hA.2.2.2.2.2.2.2, ?_⟩
      have hB := hA.rec_ (L' := rec .busy none) hN
      have hV := (Keep43.rec_ (.loop (rec .busy none)) hA.2.2.2.2.2.2.2) _ _ (blk_new W (.cells #[.int .i64 x.f0, .int .i64 x.f1, .string x.f2, .int .i64 x.f3, .int .i64 x.f4, .int .i64 x.f5, .int .u64 x.f6, .bool x.f7] 43))
      have hK := (Keep43.of_below (below_alloc (Below.refl W.heap.size W) (.cells #[.int .i64 x.f0, .int .i64 x.f1, .string x.f2, .int .i64 x.f3, .int .i64 x.f4, .int .i64 x.f5, .int .u64 x.f6, .bool x.f7] 43))).trans (Keep43.rec_ (.loop (rec .busy none)) hA.2.2.2.2.2.2.2)
      obtain ⟨W4, hW4⟩ : ∃ W4, (W.alloc (.cells #[.int .i64 x.f0, .int .i64 x.f1, .string x.f2, .int .i64 x.f3, .int .i64 x.f4, .int .i64 x.f5, .int .u64 x.f6, .bool x.f7] 43)).putObj (N + 1 + 1 + 1) (.loop (rec .busy none)) = W4 := ⟨_, rfl⟩
      rw [hW4] at hB hV hK ⊢
      clear hA hW4
      have c5 : W4.cell? ⟨w.heap.size, 0, none⟩ = some (.func (.func pf) #[] lb) := blk_cell hB.2.1 0
      have d0 : W4.cell? ⟨W.heap.size, 0, none⟩ = some (.int .i64 x.f0) := blk_cell hV 0
      have d1 : W4.cell? ⟨W.heap.size, 1, none⟩ = some (.int .i64 x.f1) := blk_cell hV 1
      have d2 : W4.cell? ⟨W.heap.size, 2, none⟩ = some (.string x.f2) := blk_cell hV 2
      have d3 : W4.cell? ⟨W.heap.size, 3, none⟩ = some (.int .i64 x.f3) := blk_cell hV 3
      have d4 : W4.cell? ⟨W.heap.size, 4, none⟩ = some (.int .i64 x.f4) := blk_cell hV 4
      have d5 : W4.cell? ⟨W.heap.size, 5, none⟩ = some (.int .i64 x.f5) := blk_cell hV 5
      have d6 : W4.cell? ⟨W.heap.size, 6, none⟩ = some (.int .u64 x.f6) := blk_cell hV 6
      have d7 : W4.cell? ⟨W.heap.size, 7, none⟩ = some (.bool x.f7) := blk_cell hV 7
      have HB := Aside0.mk hB
      have HV := Aside0.mk hV
      have HK := Aside0.mk hK
      have hpc := HP.out x W4 hB.1
      clear hB hV hK hx
      unfold agg43 at hpc
      cases h7 : x.f7 with
      | true =>
        rw [h7] at d7
        gi_wp2
        refine ⟨fun _ hh => (by cases hh), ?_⟩
        gi_wp2
        refine ⟨HB.out.2.2.2.2.2.2.2, .inl ⟨rfl, ⟨HB.out.rec_ hN, HI.out, HST.out.2 (by rw [h7]; rfl)⟩, HK.out.trans (Keep43.rec_ _ HB.out.2.2.2.2.2.2.2)⟩⟩
      | false =>
        rw [h7] at d7 hpc
        have eg := EG.out
        gi_wp2_with fail
        refine ⟨trivial, ?_⟩
        refine (CallsIn.inRound _ (callsIn_wide.2 hpc)).mono ?_
        rintro e W5 ⟨rfl, hb5⟩
        have hB5 := HB.out.below hb5
        have hV5 := blk_below HV.out hb5
        have hK5 := HK.out.trans (Keep43.of_below hb5)
        clear hpc hb5 d0 d1 d2 d3 d4 d5 d6 d7 c5
        have e0 : W5.cell? ⟨W.heap.size, 0, none⟩ = some (.int .i64 x.f0) := blk_cell hV5 0
        have c6 : W5.cell? ⟨w.heap.size + 1, 0, none⟩ = some (.int .i64 0) := blk_cell hB5.2.2.1 0
        have f6 : W5.frozen? ⟨w.heap.size + 1, 0, none⟩ = false := blk_frozen hB5.2.2.1 0
        have c7 : W5.cell? ⟨w.heap.size + 1 + 1, 0, none⟩ = some (.int .i64 0) := blk_cell hB5.2.2.2.1 0
        have f7 : W5.frozen? ⟨w.heap.size + 1 + 1, 0, none⟩ = false := blk_frozen hB5.2.2.2.1 0
        have HB5 := Aside0.mk hB5
        have HK5 := Aside0.mk hK5
        clear hB5 hV5 hK5
        cases hpx : p x with
        | true =>
          have hr0 := HST.out.1 (by rw [h7, hpx]; rfl)
          have HR0 := Aside0.mk hr0
          clear hr0
          gi_wp2
          have h6 := HB5.out.res hN x.f0
          rw [HR0.out] at h6
          rw [HR0.out]
          exact ⟨h6.2.2.2.2.2.2.2, .inr ⟨rfl, i, h6.rec_ hN⟩⟩
        | false =>
          gi_wp2
          exact ⟨HB5.out.2.2.2.2.2.2.2, .inl ⟨rfl, ⟨HB5.out.rec_ hN, HI.out, HST.out.2 (by rw [h7, hpx]; rfl)⟩, HK5.out.trans (Keep43.rec_ _ HB5.out.2.2.2.2.2.2.2)⟩⟩
    · exact ⟨HSJ.out, hi0l, s.V.length + 1, by omega, hr⟩
    · have hFs : ∀ v, v = r → searchF s name p = (v, 0) := by
        rintro v rfl
        unfold searchF
        rw [if_neg (by rw [hh]; decide), ← hr, ← HI0.out]
      have HF := Aside0.mk hFs
      clear hFs
      rintro e W2 ⟨hv, (⟨i, hi, h, _, k, _, hk⟩ | ⟨i, h⟩)⟩
      · have hneg := searchGo_neg s p k i hi
        have hr1 : -1 = r := by rw [← hk, hneg]
        have h3 := h.rec_ (L' := rec .exhausted none) hN
        refine ⟨hv, .inl ⟨.ready, by simp, h.2.2.2.2.2.2.2, ?_⟩⟩
        obtain ⟨W3, hW3⟩ : ∃ W3, W2.putObj (N + 1 + 1 + 1) (.loop (rec .exhausted none)) = W3 := ⟨_, rfl⟩
        rw [hW3] at h3 ⊢
        have c6 : W3.cell? ⟨w.heap.size + 1, 0, none⟩ = some (.int .i64 0) := blk_cell h3.2.2.1 0
        have f6 : W3.frozen? ⟨w.heap.size + 1, 0, none⟩ = false := blk_frozen h3.2.2.1 0
        have c7 : W3.cell? ⟨w.heap.size + 1 + 1, 0, none⟩ = some (.int .i64 0) := blk_cell h3.2.2.2.1 0
        have f7 : W3.frozen? ⟨w.heap.size + 1 + 1, 0, none⟩ = false := blk_frozen h3.2.2.2.1 0
        have h4 := h3.res hN (-1)
        have h5 := h4.leave hN (.deferred none)
        have H4 := Aside0.mk h4
        have H5 := Aside0.mk h5
        have HR1 := Aside0.mk hr1
        clear h3 h4 h5 hk hneg h hW3 hr1
        go_wp2
        refine ⟨by simp, .inl ⟨_, _, rfl, run_takeDeferred H4.out.2.2.2.2.2.2.1, ?_⟩⟩
        refine ⟨_, results_cells rfl _ _ (w.heap.size + 1) (w.heap.size + 1 + 1) (-1) 0 rfl rfl H5.out.1 H5.out.2.1, ?_, H5.out.2.2⟩
        rw [HF.out _ HR1.out]
      · have h3 := h.rec_ (L' := rec .exhausted (some .ret)) hN
        refine ⟨hv, .inr ⟨.done, .ret, by simp, h.2.2.2.2.2.2.2, ?_⟩⟩
        have h5 := h3.leave hN (.deferred none)
        have H3 := Aside0.mk h3
        have H5 := Aside0.mk h5
        clear h3 h5 h
        refine wpIn_wide.2 ?_
        go_wp2
        refine ⟨by simp, .inl ⟨_, _, rfl, run_takeDeferred H3.out.2.2.2.2.2.2.1, ?_⟩⟩
        refine ⟨_, results_cells rfl _ _ (w.heap.size + 1) (w.heap.size + 1 + 1) r 0 rfl rfl H5.out.1 H5.out.2.1, ?_, H5.out.2.2⟩
        rw [HF.out _ rfl]
end Go.Proofs.Ytcbkcgnigncahaa.P
