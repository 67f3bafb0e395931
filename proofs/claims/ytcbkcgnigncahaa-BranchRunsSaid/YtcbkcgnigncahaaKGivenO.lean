import Derived.Test.YtcbkcgnigncahaaKGivenJ
namespace Go.Proofs.Ytcbkcgnigncahaa.P
open Go.RowKit Go.Maps Go.Proofs.YtcbkcgnigncahaaW.PrintWords Go.Proofs.YtcbkcgnigncahaaW.PrintLast Go.Proofs.YtcbkcgnigncahaaW.PrintMore
attribute [local go_sem] max2_int min2_int max_two min_two max_three min_three max_four min_four
attribute [local go_sem] Oper.semAt_some
set_option linter.unusedVariables false
set_option linter.unusedSimpArgs false
/-- Every block of versions stands. -/
def Keep43 (W W' : World) : Prop := ∀ (i : Nat) (cs : Array Value), W.heap[i]? = some (Obj.cells cs 43 (0, 0)) → W'.heap[i]? = some (Obj.cells cs 43 (0, 0))
/-- What the iterator needs of the world: the line, its own two boxes. -/
def FromI (base g b m Bi Bl : Nat) (s : Ln) (i : Int) (W : World) : Prop :=
  LS base g b m s W ∧ i < s.V.length ∧ W.heap[Bl]? = some (.cells #[.pointer (some ⟨g, 0, none⟩)] 22 (0, 0)) ∧ W.heap[Bi]? = some (.cells #[.int .i64 i] 3 (0, 0))
def idAt (Bi : Nat) (W : World) : Int := intOf ((W.cell? ⟨Bi, 0, none⟩).getD undef)
theorem idAt_of {Bi : Nat} {i : Int} {W : World} (h : W.heap[Bi]? = some (.cells #[.int .i64 i] 3 (0, 0))) : idAt Bi W = i := by
  unfold idAt
  rw [show W.cell? ⟨Bi, 0, none⟩ = some (.int .i64 i) from blk_cell h 0]
  rfl
set_option maxRecDepth 100000 in
set_option maxHeartbeats 4000000 in
theorem from1_in (n l Bi Bl base g b m : Nat) (s : Ln) (J J' : Int → World → Prop) (Jx : World → Prop)
    (hJ : ∀ i W, J i W → FromI base g b m Bi Bl s i W) (hJ' : ∀ i W, J' i W → FromI base g b m Bi Bl s i W)
    (hJb : ∀ i W W', J i W → Below W.heap.size W W' → J i W')
    (hJs : ∀ i W, 0 ≤ i → J' i W → J (rd_T43 s.V i).f1 (W.setCell ⟨Bi, 0, none⟩ (.int .i64 (rd_T43 s.V i).f1)))
    (hY : ∀ i W, J i W → 0 ≤ i → YieldAt Fence.wide (n - 1) Try.prog l #[agg43 (rd_T43 s.V i)] W fun e W' => (e = .returned (.bool true) ∧ J' i W' ∧ Keep43 W W') ∨ (e = .returned (.bool false) ∧ Jx W'))
    (hok : LnOk s) (i0 : Int) (W : World) (h0 : J i0 W) :
    CallsIn Fence.wide n Try.prog 95 #[.func (.yield l) #[] #[], .pointer (some ⟨Bi, 0, none⟩), .pointer (some ⟨Bl, 0, none⟩)] W fun e W' => (∃ v, e = .returned v) ∧ ((∃ i, i < 0 ∧ J i W') ∨ Jx W') := by
  have hu43 := Try.underlying43
  refine callsIn_of_wp Try.func95 rfl trivial ?_ rfl
  simp only [Try.ntmps95, List.size_toArray, List.length_cons, List.length_nil, Nat.reduceAdd, Nat.reduceSub, Array.replicate_succ, Array.replicate_zero, List.push_toArray, List.append_toArray, List.nil_append, List.cons_append]
  have HOK := Aside0.mk hok
  clear hok
  gi_wp2
  gi_loopw [5] (fun v wr => Aside0 (∃ i, J i wr)) (fun _ wr => (idAt Bi wr + 1).toNat)
  case atStart => exact ⟨⟨_, h0⟩⟩
  case round =>
    obtain ⟨i, hj⟩ := hrel.out
    obtain ⟨w0, rfl⟩ : ∃ w0 : World, w0 = wr := ⟨_, rfl⟩
    obtain ⟨hL, hi, hBl, hBi⟩ := hJ i w0 hj
    have k1 : w0.cell? ⟨Bi, 0, none⟩ = some (.int .i64 i) := blk_cell hBi 0
    clear hrel
    by_cases h0 : 0 ≤ i
    · have k2 : w0.cell? ⟨Bl, 0, none⟩ = some (.pointer (some ⟨g, 0, none⟩)) := blk_cell hBl 0
      obtain ⟨A, c, hb, hR⟩ := hL.block
      have k3 : w0.cell? ⟨g, 1, none⟩ = some (.slice A s.V.length c) := blk_cell hb 1
      have hcap := (Kd.R_reads' hR).2.1
      obtain ⟨ad, e9, y0, y1, y2, y3, y4, y5, y6, y7⟩ := at_T43 (Kd.R_reads' hR).2.2 i h0 hi
      obtain rfl := e9
      have HID := Aside0.mk (idAt_of hBi)
      clear hb hR hL hBl hBi
      gi_wp2
      refine wpIn_wide.2 ?_
      have n0 := World.new_ne w0 _ k1
      have n1 := World.new_ne w0 _ k2
      have n2 := World.new_ne w0 _ k3
      have n3 := World.new_ne w0 _ y0
      have n4 := World.new_ne w0 _ y1
      have n5 := World.new_ne w0 _ y2
      have n6 := World.new_ne w0 _ y3
      have n7 := World.new_ne w0 _ y4
      have n8 := World.new_ne w0 _ y5
      have n9 := World.new_ne w0 _ y6
      have n10 := World.new_ne w0 _ y7
      go_region_held3 (fun w' => w'.cell? ⟨Bi, 0, none⟩ = some (.int .i64 i) ∧ w'.cell? ⟨Bl, 0, none⟩ = some (.pointer (some ⟨g, 0, none⟩)) ∧ w'.cell? ⟨g, 1, none⟩ = some (.slice (some ad) s.V.length c) ∧
          w'.cell? (ad.add (i.toNat * 8)) = some (Value.int IntKind.i64 (rd_T43 s.V i).f0) ∧
          w'.cell? ⟨(ad.add (i.toNat * 8)).block, (ad.add (i.toNat * 8)).off + 1, none⟩ = some (Value.int IntKind.i64 (rd_T43 s.V i).f1) ∧
          w'.cell? ⟨(ad.add (i.toNat * 8)).block, (ad.add (i.toNat * 8)).off + 2, none⟩ = some (Value.string (rd_T43 s.V i).f2) ∧
          w'.cell? ⟨(ad.add (i.toNat * 8)).block, (ad.add (i.toNat * 8)).off + 3, none⟩ = some (Value.int IntKind.i64 (rd_T43 s.V i).f3) ∧
          w'.cell? ⟨(ad.add (i.toNat * 8)).block, (ad.add (i.toNat * 8)).off + 4, none⟩ = some (Value.int IntKind.i64 (rd_T43 s.V i).f4) ∧
          w'.cell? ⟨(ad.add (i.toNat * 8)).block, (ad.add (i.toNat * 8)).off + 5, none⟩ = some (Value.int IntKind.i64 (rd_T43 s.V i).f5) ∧
          w'.cell? ⟨(ad.add (i.toNat * 8)).block, (ad.add (i.toNat * 8)).off + 6, none⟩ = some (Value.int IntKind.u64 (rd_T43 s.V i).f6) ∧
          w'.cell? ⟨(ad.add (i.toNat * 8)).block, (ad.add (i.toNat * 8)).off + 7, none⟩ = some (Value.bool (rd_T43 s.V i).f7))
        (first | exact ⟨k1, k2, k3, y0, y1, y2, y3, y4, y5, y6, y7⟩ | go_keep) (first | fail)
      clear k1 k2 k3 y0 y1 y2 y3 y4 y5 y6 y7 n0 n1 n2 n3 n4 n5 n6 n7 n8 n9 n10 hcap
      obtain ⟨w1, hw1⟩ : ∃ w1, (w0.alloc (.cells #[.int .i64 (rd_T43 s.V i).f0, .int .i64 (rd_T43 s.V i).f1, .string (rd_T43 s.V i).f2, .int .i64 (rd_T43 s.V i).f3, .int .i64 (rd_T43 s.V i).f4, .int .i64 (rd_T43 s.V i).f5, .int .u64 (rd_T43 s.V i).f6, .bool (rd_T43 s.V i).f7] 43)).drew = w1 := ⟨_, rfl⟩
      rw [hw1]
      have hb1 : Below w0.heap.size w0 w1 := by rw [← hw1]; exact below_drew1 (below_alloc (Below.refl _ _) _)
      have hv1 : w1.heap[w0.heap.size]? = some (.cells #[.int .i64 (rd_T43 s.V i).f0, .int .i64 (rd_T43 s.V i).f1, .string (rd_T43 s.V i).f2, .int .i64 (rd_T43 s.V i).f3, .int .i64 (rd_T43 s.V i).f4, .int .i64 (rd_T43 s.V i).f5, .int .u64 (rd_T43 s.V i).f6, .bool (rd_T43 s.V i).f7] 43 (0, 0)) := by
        rw [← hw1]; exact blk_drew (blk_new w0 _)
      have HJ1 := hJb i w0 w1 hj hb1
      clear hw1
      obtain ⟨fn, tmps, assign, body, hy, hR⟩ := hY i w1 HJ1 h0
      unfold agg43 at hy
      have d0 : w1.cell? ⟨w0.heap.size, 0, none⟩ = some _ := blk_cell hv1 0
      have d1 : w1.cell? ⟨w0.heap.size, 1, none⟩ = some _ := blk_cell hv1 1
      have d2 : w1.cell? ⟨w0.heap.size, 2, none⟩ = some _ := blk_cell hv1 2
      have d3 : w1.cell? ⟨w0.heap.size, 3, none⟩ = some _ := blk_cell hv1 3
      have d4 : w1.cell? ⟨w0.heap.size, 4, none⟩ = some _ := blk_cell hv1 4
      have d5 : w1.cell? ⟨w0.heap.size, 5, none⟩ = some _ := blk_cell hv1 5
      have d6 : w1.cell? ⟨w0.heap.size, 6, none⟩ = some _ := blk_cell hv1 6
      have d7 : w1.cell? ⟨w0.heap.size, 7, none⟩ = some _ := blk_cell hv1 7
      have HV1 := Aside0.mk hv1
      clear hv1 hb1
      gi_wp2
      clear d0 d1 d2 d3 d4 d5 d6 d7
      refine ⟨(fun h => (by cases h)), hR.mono ?_⟩
      clear hR hy
      rintro e W3 (⟨rfl, hJ3, hk3⟩ | ⟨rfl, hJx3⟩)
      · have hv3 := hk3 _ _ HV1.out
        have e1 : W3.cell? ⟨w0.heap.size, 1, none⟩ = some (.int .i64 (rd_T43 s.V i).f1) := blk_cell hv3 1
        obtain ⟨hL3, hi3, hBl3, hBi3⟩ := hJ' i W3 hJ3
        have k1 : W3.cell? ⟨Bi, 0, none⟩ = some (.int .i64 i) := blk_cell hBi3 0
        have z1 : W3.frozen? ⟨Bi, 0, none⟩ = false := blk_frozen hBi3 0
        have hpar := HOK.out i h0 hi
        have hnew := hJs i W3 h0 hJ3
        clear hL3 hBl3 hv3
        gi_wp2
        go_roundw
        case rel => exact ⟨⟨_, hnew⟩⟩
        case measure =>
          rw [idAt_of (blk_put hBi3 0 _ rfl), HID.out]
          omega
      · gi_wp2
        refine bodyPost_ret (results_none rfl _ _ _) rfl ?_
        exact ⟨⟨_, rfl⟩, .inr hJx3⟩
    · gi_wp2
      go_end0
      exact ⟨⟨_, rfl⟩, .inl ⟨i, by omega, hj⟩⟩
end Go.Proofs.Ytcbkcgnigncahaa.P
namespace Go.Proofs.Ytcbkcgnigncahaa.P
open Go.RowKit Go.Maps
set_option linter.unusedVariables false
set_option linter.unusedSimpArgs false
variable {F : Fence} {n : Nat} {P : Program}
/-- How a round may end, with what is asked there of the world in which the record is settled. -/
def endsRound (l : Nat) (rec : LoopState → Option Code → Loop) (R : Ending → World → Prop) : Exit → Act → World → Prop
  | .normal, _, w => w.heap[l]? = some (.loop (rec .busy none)) ∧ R (.returned (.bool true)) (w.putObj l (.loop (rec .ready none)))
  | .ret, _, w => w.heap[l]? = some (.loop (rec .busy none)) ∧ R (.returned (.bool false)) (w.putObj l (.loop (rec .done (some .ret))))
  | _, _, _ => False
def recOf (fn : FuncId) (tmps : Array Value) (ps : Array Tmp) (assign body : Code) (D : Nat) : LoopState → Option Code → Loop := fun st pe => { state := st, pending := pe, fn := fn, tmps := tmps, params := ps, assign := assign, body := body, defers := D }
theorem yields_of {l fn D : Nat} {tmps : Array Value} {ps : Array Tmp} {assign body : Code} {rec : LoopState → Option Code → Loop} (hrec : recOf fn tmps ps assign body D = rec) (hF : F.fn fn) {W : World} (hl : W.heap[l]? = some (.loop (rec .ready none))) {args : Array Value} (hs : args.size = ps.size) {R : Ending → World → Prop}
    (h : assign.wpIn (F.inRound l) n P (Exit.then (fun a₁ w₁ => w₁.heap[l]? = some (.loop (rec .ready none)) ∧ body.wpIn (F.inRound l) n P (endsRound l rec R) a₁ (w₁.putObj l (.loop (rec .busy none)))) (fun _ _ _ => False))
      { tmps := (ps.zip args).foldl (fun t (p, v) => t.setIfInBounds p v) tmps, defers := [] } W) :
    YieldAt F n P l args W R := by
  subst hrec
  have hy := run_yield (P := P) (args := args) hl hs
  refine ⟨fn, _, assign, body, hy, roundIn_of_wpIn hF (wpIn_mono h ?_)⟩
  intro e a₁ w₁ hq
  cases e with
  | normal =>
    obtain ⟨h1, h2⟩ := hq
    refine ⟨_, run_beginRound h1 rfl, wpIn_mono h2 ?_⟩
    intro e a₂ w₂ hq2
    cases e with
    | normal => exact ⟨_, _, run_endRound none hq2.1, hq2.2⟩
    | ret => exact ⟨_, _, run_endRound (some .ret) hq2.1, hq2.2⟩
    | exit id => exact hq2.elim
    | goto t => exact hq2.elim
    | panic c => exact hq2.elim
    | outgrown => exact hq2.elim
  | ret => exact hq.elim
  | exit id => exact hq.elim
  | goto t => exact hq.elim
  | panic c => exact hq.elim
  | outgrown => exact hq.elim
theorem ranges_of {g : Operand} {ps : Array Tmp} {assign body : Code} {Q : Exit → Act → World → Prop} {a : Act} {w : World} (hro : F.round = none) (h1 : 1 ≤ n) {gf : Nat} {lb : Array Value} (hg : a.eval g = .func (.func gf) #[] lb) (hFg : F.fn gf)
    (eg : ∀ args w, (callFunc gf args).run P w = .ok (.enter gf args) w)
    (h : ∀ (fn l D : Nat) (rec : LoopState → Option Code → Loop) (W1 : World), F.fn fn → recOf fn a.tmps ps assign body D = rec → D = w.heap.size → l = w.heap.size + 1 → W1 = (w.alloc (.deferred (some []))).alloc (.loop (rec .ready none)) →
      CallsIn F (n - 1) P gf (#[.func (.yield l) #[] #[]] ++ lb) W1 fun e W' => (∃ v, e = .returned v) ∧ ((∃ st, st ≠ .busy ∧ W'.heap[l]? = some (.loop (rec st none)) ∧ Q .normal { a with defers := { target := .collected D, args := #[] } :: a.defers } (W'.putObj l (.loop (rec .exhausted none)))) ∨
        (∃ st c, st ≠ .busy ∧ W'.heap[l]? = some (.loop (rec st (some c))) ∧ c.wpIn F n P Q { a with defers := { target := .collected D, args := #[] } :: a.defers } (W'.putObj l (.loop (rec .exhausted (some c))))))) :
    (Code.rangeFunc g ps assign body).wpIn F n P Q a w := by
  refine wpIn_rangeFunc ?_
  intro fn hfn
  rw [hro]
  obtain ⟨rec, hrec⟩ : ∃ rec, recOf fn a.tmps ps assign body w.heap.size = rec := ⟨_, rfl⟩
  obtain ⟨W1, hW1⟩ : ∃ W1, (w.alloc (.deferred (some []))).alloc (.loop (rec .ready none)) = W1 := ⟨_, rfl⟩
  have hh := h fn (w.heap.size + 1) w.heap.size rec W1 hfn hrec rfl rfl hW1.symm
  have he : (Instr.enterLoop fn a.tmps ps assign body none).run P w = .ok (w.heap.size + 1, [{ target := .collected w.heap.size, args := #[] }]) W1 := by
    rw [← hW1, ← hrec]
    exact run_enterLoop_outer _ _ _ _ _
  have hend : ∀ (W2 : World) (st : LoopState) (pe : Option Code), W2.heap[w.heap.size + 1]? = some (.loop (rec st pe)) → st ≠ .busy → (Instr.endLoop (w.heap.size + 1)).run P W2 = .ok pe (W2.putObj (w.heap.size + 1) (.loop (rec .exhausted pe))) := by
    intro W2 st pe hl hst
    subst hrec
    exact run_endLoop hl hst
  refine ⟨w.heap.size + 1, [{ target := .collected w.heap.size, args := #[] }], W1, { target := .fn (.func gf) lb, args := #[.func (.yield (w.heap.size + 1)) #[] #[]] }, W1, gf,
    #[.func (.yield (w.heap.size + 1)) #[] #[]] ++ lb, W1, he, ?_, ?_, ?_, fun _ => h1, ?_⟩
  · simp only [resolve, hg]
    simp [go_sem]
  · intro f' hf'
    simp [Target.leads] at hf'
    subst hf'
    exact hFg
  · simp [invoke, go_sem, eg]
  · refine hh.mono ?_
    rintro e W2 ⟨⟨v, rfl⟩, (⟨st, hst, hl, hQ⟩ | ⟨st, c, hst, hl, hQ⟩)⟩
    · exact ⟨none, _, hend W2 st none hl hst, hQ⟩
    · exact ⟨some c, _, hend W2 st (some c) hl hst, hQ⟩
end Go.Proofs.Ytcbkcgnigncahaa.P
