import Derived.Test.YtgmbjgddelcceaaUGivenE
import Derived.Test.YtgmbjgddelcceaaUPx6
namespace Go.Proofs.Ytgmbjgddelcceaa.P
open Go.RowKit Go.Proofs.YtgmbjgddelcceaaW.PrintWords Go.Proofs.YtgmbjgddelcceaaW.PrintLast Go.Proofs.YtgmbjgddelcceaaW.PrintMore
attribute [local go_sem] max2_int min2_int max_two min_two max_three min_three max_four min_four
attribute [local go_sem high] eqA71
attribute [local go_sem] Oper.semAt_some
set_option linter.unusedVariables false
set_option linter.unusedSimpArgs false
theorem S71.ext2 {a b : S71} (h0 : a.f0 = b.f0) (h1 : a.f1 = b.f1) (h2 : a.f2 = b.f2) (h3 : a.f3 = b.f3) : a = b := by cases a; cases b; simp_all
theorem S80.ext2 {a b : S80} (h0 : a.f0 = b.f0) (h1 : a.f1 = b.f1) (h2 : a.f2 = b.f2) (h3 : a.f3 = b.f3) (h4 : a.f4 = b.f4) (h5 : a.f5 = b.f5) : a = b := by cases a; cases b; simp_all
theorem neP_iff (a b : S80) : (!(a.f0 == b.f0) || (!(a.f1 == b.f1) || (!(a.f2 == b.f2) || ((!(a.f3.f0 == b.f3.f0) || (!(a.f3.f1 == b.f3.f1) || (!(a.f3.f2 == b.f3.f2) || (!(a.f3.f3 == b.f3.f3))))) || (!(a.f4 == b.f4) || (!(a.f5 == b.f5))))))) = true ↔ a ≠ b := by
  constructor
  · rintro h rfl
    simp at h
  · intro h
    by_cases c0 : a.f0 = b.f0
    · by_cases c1 : a.f1 = b.f1
      · by_cases c2 : a.f2 = b.f2
        · by_cases c3 : a.f3.f0 = b.f3.f0
          · by_cases c4 : a.f3.f1 = b.f3.f1
            · by_cases c5 : a.f3.f2 = b.f3.f2
              · by_cases c6 : a.f3.f3 = b.f3.f3
                · by_cases c7 : a.f4 = b.f4
                  · by_cases c8 : a.f5 = b.f5
                    · exact absurd (S80.ext2 c0 c1 c2 (S71.ext2 c3 c4 c5 c6) c7 c8) h
                    · simp [c8]
                  · simp [c7]
                · simp [c6]
              · simp [c5]
            · simp [c4]
          · simp [c3]
        · simp [c2]
      · simp [c1]
    · simp [c0]
theorem drop_rd80 (l : List S80) (i : Int) (h0 : 0 ≤ i) (h : i < l.length) : l.drop i.toNat = rd_T80 l i :: l.drop (i + 1).toNat := by
  rw [List.drop_eq_getElem_cons (show i.toNat < l.length by omega), show (i + 1).toNat = i.toNat + 1 from by omega]
  congr 1
  simp [rd_T80, List.getD_eq_getElem?_getD, List.getElem?_eq_getElem (show i.toNat < l.length by omega)]
open Classical in
theorem eqP_loop (l0 l1 : List S80) (hl : l0.length = l1.length) (hm : l0.length ≤ 9223372036854775807) : ∀ (d : Nat) (i : Int) (k : Nat), (l0.length : Int) - i = d → 0 ≤ i → d < k → ∃ b : Bool, prov_Piece.l0 k l0 l1 l0.length i = some b ∧ (b = true ↔ l0.drop i.toNat = l1.drop i.toNat) := by
  intro d
  induction d with
  | zero =>
    intro i k hd h0 hk
    obtain ⟨k, rfl⟩ : ∃ m, k = m + 1 := ⟨k - 1, by omega⟩
    refine ⟨true, ?_, ?_⟩
    · simp only [prov_Piece.l0]; rw [if_neg (by omega)]
    · rw [List.drop_eq_nil_of_le (by omega), List.drop_eq_nil_of_le (by omega)]; simp
  | succ d ih =>
    intro i k hd h0 hk
    obtain ⟨k, rfl⟩ : ∃ m, k = m + 1 := ⟨k - 1, by omega⟩
    simp only [prov_Piece.l0]
    rw [if_pos (by omega), if_pos h0, if_pos (by omega), if_pos (by omega)]
    rw [drop_rd80 l0 i h0 (by omega), drop_rd80 l1 i h0 (by omega)]
    by_cases he : rd_T80 l0 i = rd_T80 l1 i
    · rw [if_neg (by rw [neP_iff]; exact fun h => h he), show wrap64 (i + 1) = i + 1 from by unfold wrap64; omega]
      obtain ⟨b, hb, hbb⟩ := ih (i + 1) k (by omega) (by omega) (by omega)
      exact ⟨b, hb, by rw [hbb, he]; simp⟩
    · rw [if_pos ((neP_iff _ _).2 he)]
      refine ⟨false, rfl, ?_⟩
      constructor
      · intro h; cases h
      · intro h; exact absurd (List.cons.inj h).1 he
theorem eqPieces (l0 l1 : List S80) (hm : l0.length ≤ 9223372036854775807) : ∃ (k : Nat) (b : Bool), prov_Piece.f k l0 l1 = some b ∧ (b = true ↔ l0 = l1) := by
  by_cases hl : l0.length = l1.length
  · obtain ⟨b, hb, hbb⟩ := eqP_loop l0 l1 hl hm l0.length 0 (l0.length + 1) (by omega) (by omega) (by omega)
    refine ⟨l0.length + 1, b, ?_, by simpa using hbb⟩
    unfold prov_Piece.f
    rw [if_pos (by omega)]; exact hb
  · refine ⟨0, false, ?_, ?_⟩
    · unfold prov_Piece.f
      rw [if_neg (by omega)]
    · constructor
      · intro h; cases h
      · intro h; exact absurd (by rw [h]) hl
theorem R_append_in {α : Type} (d : Kd α) {F : Fence} {n : Nat} {P : Program} {ops : Array Oper} {rest : List Oper} {o : Oper} {a : Act} {Q : Exit → Act → World → Prop} {w0 W : World} (base : Nat) (hgd : o.guard = none) (s x : Operand) (t e : TypeId) (z : Value) (bytes : Nat)
    (ho : o.op = .call { callee := .builtin .append, args := #[s, x], argTypes := #[t, t] })
    (ht : P.underlying t = some (.slice e)) (hinfo : (P.info? e).map (fun i => (i.zero, i.size, i.bytes)) = some (some z, d.sz, bytes)) (hz : z.cells.size = d.sz) (hs0 : 0 < d.sz) (hb0 : 0 < bytes)
    (v : Value) (xs : List α) (p : α) (cs : List Value) (ok okp : Nat → Prop) (hs : a.eval s = v) (hx : a.eval x = .slice (some ⟨W.heap.size, 0, none⟩) 1 1) (hp : d.M W base okp p cs) (hokp : ∀ k, okp k → ok k ∧ some k ≠ v.ownBlock) (hfresh : ∀ k, W.heap.size ≤ k → ok k)
    (HO : d.R e W base ok v xs) (HB : Below base w0 W) (hbase : base ≤ W.heap.size) (hl : (xs.length + 1) * bytes ≤ 140737488355328)
    (h : ∀ v1 w1, d.R e w1 base ok v1 (xs ++ [p]) → Below base w0 w1 → W.grownBy w1 v.ownBlock → (v1.ownBlock = v.ownBlock ∨ ∃ b, v1.ownBlock = some b ∧ W.heap.size ≤ b) → wpListIn F n P ops Q rest (a.put o.dst v1) w1) :
    wpListIn F n P ops Q (o :: rest) a (W.alloc (.cells cs.toArray e)) := by
  obtain ⟨h0, inner, hown, hr⟩ := HO
  obtain ⟨i0, hi, hzz⟩ := Option.map_eq_some_iff.1 hinfo
  simp only [Prod.mk.injEq] at hzz
  obtain ⟨hz0, hz1, hz2⟩ := hzz
  have hlen : xs.length + 1 ≤ 140737488355328 := Nat.le_trans (Nat.le_mul_of_pos_right _ hb0) hl
  refine wpListIn_plain hgd fun K hK' => ?_
  obtain ⟨v1, w1, hrun, hown1, hg1, _, hat1⟩ := run_append_own_at (P := P) (w := W.alloc (.cells cs.toArray e)) base t o.type e i0 z d.sz bytes ht hi hz0 hz1 hz2 hz hs0 v xs.length inner (hown.alloc _) ⟨W.heap.size, 0, none⟩ 1 1 cs (by rw [d.K_len (d.K_of_M hp)]; simp)
    (by simpa using World.news_of_block (cs := cs.toArray) (t := e) (fr := (0, 0)) (heap_alloc_new W (.cells cs.toArray e))) (d.K_one (d.K_of_M hp)) (by simp only [maxLen]; omega) hl (by simp; omega)
  unfold Oper.wpIn
  refine ⟨?_, ?_⟩
  · simp [Oper.about, ho, resolve, Target.leads, Sem.run_pure]
  · rw [Oper.semAt_plain F _ _ (by rw [ho]; intro c hc'; cases hc')]
    simp [execOp, ho, resolve, invoke, builtin, hs, hx, hrun, Result.andThen]
    have hg2 : W.grownBy w1 v.ownBlock := World.grownBy.trans (World.grownBy_alloc W _ _) hg1
    have hat2 : v1.ownBlock = v.ownBlock ∨ ∃ b, v1.ownBlock = some b ∧ W.heap.size ≤ b := hat1.imp id (fun h => ⟨_, h, by simp⟩)
    exact hK' _ _ (h v1 w1 (Kd.R_appended h0 hr hp hokp hfresh hown1 hg2 hat2) ((HB.alloc hbase _).grown hg1 (by simp; omega) (own_base hown)) hg2 hat2)
def marksOf (rs : List Nat) : List Deferred := rs.map fun r => { target := .collected r, args := #[] }
def MarksOk (B : Nat) (rs : List Nat) (W : World) : Prop := rs.Nodup ∧ ∀ r ∈ rs, B ≤ r ∧ W.heap[r]? = some (.deferred (some []))
theorem leaves_marks {n : Nat} {fn : Func} {tmps : Array Value} {R : Ending → World → Prop} (B : Nat) (Fin : World → Prop)
    (hFin : ∀ W r o, B ≤ r → W.heap[r]? = some (.deferred (some [])) → Fin W → Fin (W.putObj r o))
    (hR : ∀ W, Fin W → ∃ v, (results fn tmps).run Try.prog W = .ok v W ∧ R (.returned v) W) :
    ∀ (rs : List Nat) (W : World), MarksOk B rs W → Fin W → LeavesInM Fence.wide n Try.prog fn tmps R (marksOf rs) .returning W
  | [], W, _, hf => hR W hf
  | r :: rs, W, hm, hf => by
    have h0 := hm.2 r (List.mem_cons_self ..)
    refine ⟨by simp, .inl ⟨r, _, rfl, run_takeDeferred h0.2, ?_⟩⟩
    refine leaves_marks B Fin hFin hR rs _ ⟨(List.nodup_cons.1 hm.1).2, fun r' hr' => ?_⟩ (hFin W r _ h0.1 h0.2 hf)
    have h1 := hm.2 r' (List.mem_cons_of_mem _ hr')
    have hne : r ≠ r' := fun e => (List.nodup_cons.1 hm.1).1 (e ▸ hr')
    exact ⟨h1.1, (World.putObj_heap_other (Ne.symm hne)).trans h1.2⟩
theorem MarksOk.keep {B : Nat} {rs : List Nat} {W W' : World} (h : MarksOk B rs W) (hk : ∀ r, B ≤ r → W.heap[r]? = some (.deferred (some [])) → W'.heap[r]? = some (.deferred (some []))) : MarksOk B rs W' :=
  ⟨h.1, fun r hr => ⟨(h.2 r hr).1, hk r (h.2 r hr).1 (h.2 r hr).2⟩⟩
theorem results_two {fn : Func} {p p' : Tmp} {ty ty' : TypeId} (h : fn.results = #[.cell p ty, .cell p' ty']) (tmps : Array Value) (W : World) (g g' : Nat) (v : Value) (e : Int)
    (hp : tmps[p]?.getD undef = .pointer (some ⟨g, 0, none⟩)) (hp' : tmps[p']?.getD undef = .pointer (some ⟨g', 0, none⟩)) (hty : ty = 23) (hty' : ty' = 28)
    (hg : W.cell? ⟨g, 0, none⟩ = some v) (hg' : W.cell? ⟨g', 0, none⟩ = some (.int .i64 e)) :
    (results fn tmps).run Try.prog W = .ok (.tuple #[v, .int .i64 e]) W := by
  subst hty; subst hty'
  simp only [results, h, hp, hp']
  go_simp
def badPiece (p : S80) (out : List S71) : Bool :=
  p.f0 != (out.length : Int) / 16 || (p.f1 != (out.length : Int) % 16 || (decide (p.f2 ≤ p.f1) || (decide (p.f2 > 16) || decide ((out.length : Int) ≥ 256))))
instance : DecidableEq S71 := fun a b => decidable_of_iff (a.f0 = b.f0 ∧ a.f1 = b.f1 ∧ a.f2 = b.f2 ∧ a.f3 = b.f3) (by cases a; cases b; simp)
instance : DecidableEq S80 := fun a b => decidable_of_iff (a.f0 = b.f0 ∧ a.f1 = b.f1 ∧ a.f2 = b.f2 ∧ a.f3 = b.f3 ∧ a.f4 = b.f4 ∧ a.f5 = b.f5) (by cases a; cases b; simp)
def unpackGo : List S80 → List S71 → Option (List S71)
  | [], out => some out
  | p :: ps, out => if badPiece p out then none else if (pixs p (p.f2 - p.f1).toNat).any badS then none else unpackGo ps (out ++ pixs p (p.f2 - p.f1).toNat)
/-- What holds between two pieces. -/
def UI (w : World) (out : List S71) (v : Value) (rs : List Nat) (W : World) : Prop :=
  W.heap[w.heap.size + 1 + 1]? = some (.cells #[v] 23 (0, 0)) ∧ W.heap[w.heap.size]? = some (.cells #[.slice none 0 0] 23 (0, 0)) ∧ W.heap[w.heap.size + 1]? = some (.cells #[.int .i64 0] 28 (0, 0)) ∧
    Kd.R k71 71 W w.heap.size (fun _ => True) v out ∧ Below w.heap.size w W ∧ MarksOk w.heap.size rs W
def unpackF (xs : List S80) : List S71 × Int := match unpackGo xs [] with
  | none => ([], 2)
  | some out => if (out.length : Int) = 256 then if packL out = xs then (out, 0) else ([], 2) else ([], 2)
def UPost (xs : List S80) (w : World) (e : Ending) (w' : World) : Prop := ∃ v0_, e = .returned (.tuple #[v0_, .int .i64 (unpackF xs).2]) ∧ Kd.R k71 71 w' w.heap.size (fun _ => True) v0_ (unpackF xs).1 ∧ Below w.heap.size w w'
def UFin (w : World) (v : Value) (e : Int) (res : List S71) (W : World) : Prop :=
  W.heap[w.heap.size]? = some (.cells #[v] 23 (0, 0)) ∧ W.heap[w.heap.size + 1]? = some (.cells #[.int .i64 e] 28 (0, 0)) ∧ Kd.R k71 71 W w.heap.size (fun _ => True) v res ∧ Below w.heap.size w W
theorem putObj_blk {W : World} {r g : Nat} {o : Obj} {cs : Array Value} {t : TypeId} {fr : Nat × Nat} (hr : W.heap[r]? = some (.deferred (some []))) (h : W.heap[g]? = some (.cells cs t fr)) : (W.putObj r o).heap[g]? = some (.cells cs t fr) := by
  refine (World.putObj_heap_other ?_).trans h
  rintro rfl
  rw [hr] at h
  cases h
theorem fin_leaves {n : Nat} {xs : List S80} {w W : World} {rs : List Nat} {tmps : Array Value} {v : Value} {e : Int} {res : List S71} (hres : unpackF xs = (res, e))
    (hp : tmps[2]?.getD undef = .pointer (some ⟨w.heap.size, 0, none⟩)) (hp' : tmps[3]?.getD undef = .pointer (some ⟨w.heap.size + 1, 0, none⟩)) (hm : MarksOk w.heap.size rs W) (hf : UFin w v e res W) :
    LeavesInM Fence.wide n Try.prog Try.f15 tmps (UPost xs w) (marksOf rs) .returning W := by
  refine leaves_marks w.heap.size (UFin w v e res) ?_ ?_ rs W hm hf
  · intro W r o hB hr h
    refine ⟨putObj_blk hr h.1, putObj_blk hr h.2.1, ?_, ?_⟩
    · refine Kd.R_grown2 h.2.2.1 rfl (grownBy_putObj' W r o) (fun k hk hv => ?_)
      injection hk with hk
      subst hk
      obtain ⟨cells, hc⟩ := Kd.R_typed h.2.2.1 r hv.symm
      rw [hr] at hc
      cases hc
    · exact h.2.2.2.trans ⟨rfl, rfl, rfl, by simp, fun i hi => World.putObj_heap_other (by omega)⟩
  · intro W h
    refine ⟨_, results_two rfl tmps W _ _ v e hp hp' rfl rfl (blk_cell h.1 0) (blk_cell h.2.1 0), v, ?_, ?_, h.2.2.2⟩
    · rw [hres]
    · rw [hres]; exact h.2.2.1
theorem UI_alloc {w W : World} {out : List S71} {v : Value} {rs : List Nat} (h : UI w out v rs W) (o : Obj) : UI w out v rs (W.alloc o) :=
  ⟨blk_alloc h.1 o, blk_alloc h.2.1 o, blk_alloc h.2.2.1 o, Kd.R_alloc h.2.2.2.1 o, below_alloc h.2.2.2.2.1 o, h.2.2.2.2.2.keep (fun r _ hr => blk_alloc hr o)⟩
theorem MarksOk.alloc {B : Nat} {rs : List Nat} {W : World} (h : MarksOk B rs W) (o : Obj) : MarksOk B rs (W.alloc o) := h.keep (fun r _ hr => blk_alloc hr o)
theorem UFin_alloc {w W : World} {v : Value} {e : Int} {res : List S71} (h : UFin w v e res W) (o : Obj) : UFin w v e res (W.alloc o) := ⟨blk_alloc h.1 o, blk_alloc h.2.1 o, Kd.R_alloc h.2.2.1 o, below_alloc h.2.2.2 o⟩
theorem UI_fail {w W : World} {out : List S71} {v : Value} {rs : List Nat} (h : UI w out v rs W) : UFin w (.slice none 0 0) 2 [] ((W.setCell ⟨w.heap.size, 0, none⟩ (.slice none 0 0)).setCell ⟨w.heap.size + 1, 0, none⟩ (.int .i64 2)) ∧ MarksOk w.heap.size rs ((W.setCell ⟨w.heap.size, 0, none⟩ (.slice none 0 0)).setCell ⟨w.heap.size + 1, 0, none⟩ (.int .i64 2)) := by
  refine ⟨⟨blk_far (blk_put h.2.1 0 _ rfl) (by simp) _, blk_put (blk_far h.2.2.1 (by simp) _) 0 _ rfl, Kd.R_nil _ _ _ _ _, below_set (below_set h.2.2.2.2.1 (Nat.le_refl _)) (Nat.le_succ _)⟩, ?_⟩
  refine h.2.2.2.2.2.keep (fun r hB hr => ?_)
  rw [Below.heap_setCell, Below.heap_setCell]
  · exact hr
  · show r ≠ w.heap.size
    rintro rfl
    rw [h.2.1] at hr; cases hr
  · show r ≠ w.heap.size + 1
    rintro rfl
    rw [h.2.2.1] at hr; cases hr
theorem UI_own {w W W' : World} {out : List S71} {v : Value} {rs : List Nat} {row : Option Nat} {B : Nat} (h : UI w out v rs W) (hg : W.grownBy W' row) (hr : ∀ r, row = some r → B ≤ r ∧ ∃ o : Obj, W.heap[r]? = some o ∧ o.isCells = false) (hB : ∀ r ∈ rs, r < B) (hwB : w.heap.size ≤ B) : UI w out v rs W' := by
  have hb : ∀ {g : Nat} {cs : Array Value} {t : TypeId} {fr : Nat × Nat}, W.heap[g]? = some (.cells cs t fr) → W'.heap[g]? = some (.cells cs t fr) := fun {g cs t fr} hgc => by
    refine (hg.block g (blk_lt hgc) (fun e => ?_)).trans hgc
    obtain ⟨_, o, ho, hc⟩ := hr g e.symm
    rw [hgc] at ho
    injection ho with ho
    subst ho
    cases hc
  refine ⟨hb h.1, hb h.2.1, hb h.2.2.1, ?_, ?_, ?_⟩
  · refine Kd.R_grown2 h.2.2.2.1 rfl hg (fun k hk hv => ?_)
    obtain ⟨_, o, ho, hc⟩ := hr k hk
    obtain ⟨cells, hcc⟩ := Kd.R_typed h.2.2.2.1 k hv.symm
    rw [hcc] at ho
    injection ho with ho
    subst ho
    cases hc
  · exact pw_below_grown h.2.2.2.2.1 row h.2.2.2.2.1.size hg (fun k hk => Nat.le_trans hwB (hr k hk).1)
  · refine ⟨h.2.2.2.2.2.1, fun r hrr => ⟨(h.2.2.2.2.2.2 r hrr).1, ?_⟩⟩
    have h1 := (h.2.2.2.2.2.2 r hrr).2
    refine (hg.block r (blk_lt h1) (fun e => ?_)).trans h1
    have := (hr r e.symm).1
    have := hB r hrr
    omega
theorem UI_done {w W : World} {out : List S71} {v : Value} {rs : List Nat} (h : UI w out v rs W) : UFin w v 0 out ((W.setCell ⟨w.heap.size, 0, none⟩ v).setCell ⟨w.heap.size + 1, 0, none⟩ (.int .i64 0)) ∧ MarksOk w.heap.size rs ((W.setCell ⟨w.heap.size, 0, none⟩ v).setCell ⟨w.heap.size + 1, 0, none⟩ (.int .i64 0)) := by
  have b3 := blk_far h.2.2.1 (p := ⟨w.heap.size, 0, none⟩) (by simp) v
  have b2 := blk_put h.2.1 0 v rfl
  refine ⟨⟨blk_far b2 (by simp) _, blk_put b3 0 _ rfl, ?_, below_set (below_set h.2.2.2.2.1 (Nat.le_refl _)) (Nat.le_succ _)⟩, ?_⟩
  · have h1 := Kd.R_grown2 h.2.2.2.1 rfl (grownBy_setCell' W w.heap.size v) (fun k hk => by injection hk with hk; subst hk; exact Kd.R_ne h.2.2.2.1 h.2.1 (by decide))
    exact Kd.R_grown2 h1 rfl (grownBy_setCell' _ (w.heap.size + 1) _) (fun k hk => by injection hk with hk; subst hk; exact Kd.R_ne h1 b3 (by decide))
  · refine h.2.2.2.2.2.keep (fun r hB hr => ?_)
    rw [Below.heap_setCell, Below.heap_setCell]
    · exact hr
    · show r ≠ w.heap.size
      rintro rfl
      rw [h.2.1] at hr; cases hr
    · show r ≠ w.heap.size + 1
      rintro rfl
      rw [h.2.2.1] at hr; cases hr
theorem drop_at {xs : List S80} {i : Int} {p : S80} (h0 : 0 ≤ i) (hi : i < xs.length) (hp : rd_T80 xs i = p) : xs.drop i.toNat = p :: xs.drop (i + 1).toNat := by
  rw [List.drop_eq_getElem_cons (show i.toNat < xs.length by omega), show (i + 1).toNat = i.toNat + 1 from by omega]
  congr 1
  rw [← hp]; simp [rd_T80, List.getD_eq_getElem?_getD, List.getElem?_eq_getElem (show i.toNat < xs.length by omega)]
theorem pixs_any_le {p : S80} {k N : Nat} (h : k ≤ N) (hb : (pixs p k).any badS = true) : (pixs p N).any badS = true := by
  obtain ⟨y, hy, hbad⟩ := List.any_eq_true.1 hb
  refine List.any_eq_true.2 ⟨y, ?_, hbad⟩
  simp only [pixs, List.mem_map, List.mem_range] at hy ⊢
  obtain ⟨a, ha, e⟩ := hy
  exact ⟨a, by omega, e⟩
def badOut (w : World) (rs : List Nat) (W : World) : Prop := UFin w (.slice none 0 0) 2 [] W ∧ MarksOk w.heap.size rs W
theorem badOut_own {w W W' : World} {rs : List Nat} {row : Option Nat} {B : Nat} (h : badOut w rs W) (hg : W.grownBy W' row) (hr : ∀ r, row = some r → B ≤ r ∧ ∃ o : Obj, W.heap[r]? = some o ∧ o.isCells = false) (hB : ∀ r ∈ rs, r < B) (hwB : w.heap.size ≤ B) : badOut w rs W' := by
  have hb : ∀ {g : Nat} {cs : Array Value} {t : TypeId} {fr : Nat × Nat}, W.heap[g]? = some (.cells cs t fr) → W'.heap[g]? = some (.cells cs t fr) := fun {g cs t fr} hgc => by
    refine (hg.block g (blk_lt hgc) (fun e => ?_)).trans hgc
    obtain ⟨_, o, ho, hc⟩ := hr g e.symm
    rw [hgc] at ho
    injection ho with ho
    subst ho
    cases hc
  refine ⟨⟨hb h.1.1, hb h.1.2.1, Kd.R_nil _ _ _ _ _, pw_below_grown h.1.2.2.2 row h.1.2.2.2.size hg (fun k hk => Nat.le_trans hwB (hr k hk).1)⟩, h.2.1, fun r hrr => ⟨(h.2.2 r hrr).1, ?_⟩⟩
  have h1 := (h.2.2 r hrr).2
  refine (hg.block r (blk_lt h1) (fun e => ?_)).trans h1
  have := (hr r e.symm).1
  have := hB r hrr
  omega
theorem blk_own {W W' : World} {row : Option Nat} {B g : Nat} {cs : Array Value} {t : TypeId} {fr : Nat × Nat} (h : W.heap[g]? = some (.cells cs t fr)) (hg : W.grownBy W' row) (hr : ∀ r, row = some r → B ≤ r ∧ ∃ o : Obj, W.heap[r]? = some o ∧ o.isCells = false) : W'.heap[g]? = some (.cells cs t fr) := by
  refine (hg.block g (blk_lt h) (fun e => ?_)).trans h
  obtain ⟨_, o, ho, hc⟩ := hr g e.symm
  rw [h] at ho
  injection ho with ho
  subst ho
  cases hc
def cellsS (x : S71) : Array Value := #[.int .i64 x.f0, .int .i64 x.f1, .int .i64 x.f2, .int .u64 x.f3]
theorem Keep80.grown {A B : World} {row : Option Nat} (hg : A.grownBy B row) (hr : ∀ k, row = some k → ∃ cs t, A.heap[k]? = some (Obj.cells cs t (0, 0)) ∧ t ≠ 80) : Keep80 A B := fun i cs hi => by
  refine (hg.block i (blk_lt hi) (fun e => ?_)).trans hi
  obtain ⟨cs', t, h1, h2⟩ := hr i e.symm
  rw [hi] at h1
  injection h1 with h1
  injection h1 with _ h1
  exact h2 h1.symm
theorem Keep80.set {A : World} {g j : Nat} {u : Value} {cs : Array Value} {t : TypeId} (h : A.heap[g]? = some (.cells cs t (0, 0))) (ht : t ≠ 80) : Keep80 A (A.setCell ⟨g, j, none⟩ u) := fun i cs' hi => by
  refine (Below.heap_setCell A _ u i ?_).trans hi
  show i ≠ g
  rintro rfl
  rw [h] at hi
  injection hi with hi
  injection hi with _ hi
  exact ht hi
theorem UI_below {w W W' : World} {out : List S71} {v : Value} {rs : List Nat} (h : UI w out v rs W) (hb : Below W.heap.size W W') : UI w out v rs W' :=
  ⟨blk_below h.1 hb, blk_below h.2.1 hb, blk_below h.2.2.1 hb, Kd.R_below h.2.2.2.1 hb, below_step h.2.2.2.2.1 hb, h.2.2.2.2.2.keep (fun r _ hr => blk_below hr hb)⟩
theorem UI_append {w W W1 : World} {out : List S71} {x : S71} {v v1 : Value} {rs : List Nat} (h : UI w out v rs W) (hR : Kd.R k71 71 W1 w.heap.size (fun _ => True) v1 (out ++ [x])) (hg : W.grownBy W1 v.ownBlock) (hb : Below w.heap.size w W1) :
    UI w (out ++ [x]) v1 rs (W1.setCell ⟨w.heap.size + 1 + 1, 0, none⟩ v1) ∧ KeepsOthers W (W1.setCell ⟨w.heap.size + 1 + 1, 0, none⟩ v1) ∧ Keep80 W (W1.setCell ⟨w.heap.size + 1 + 1, 0, none⟩ v1) := by
  have hn4 := Kd.R_ne h.2.2.2.1 h.1 (by decide)
  have hn2 := Kd.R_ne h.2.2.2.1 h.2.1 (by decide)
  have hn3 := Kd.R_ne h.2.2.2.1 h.2.2.1 (by decide)
  have b4 := blk_grown h.1 hg hn4
  have b2 := blk_grown h.2.1 hg hn2
  have b3 := blk_grown h.2.2.1 hg hn3
  have hty := Kd.R_typed h.2.2.2.1
  refine ⟨⟨blk_put b4 0 _ rfl, blk_far b2 (by simp; omega) _, blk_far b3 (by simp) _, ?_, below_set hb (by omega), ?_⟩, ?_, ?_⟩
  · refine Kd.R_grown2 hR rfl (grownBy_setCell' W1 (w.heap.size + 1 + 1) v1) (fun k hk => ?_)
    injection hk with hk
    subst hk
    exact Kd.R_ne hR b4 (by decide)
  · refine h.2.2.2.2.2.keep (fun r _ hr => ?_)
    rw [Below.heap_setCell]
    · refine (hg.block r (blk_lt hr) (fun e => ?_)).trans hr
      obtain ⟨cells, hc⟩ := hty r e.symm
      rw [hr] at hc
      cases hc
    · show r ≠ w.heap.size + 1 + 1
      rintro rfl
      rw [h.1] at hr
      cases hr
  · refine KeepsOthers.trans (KeepsOthers.of_grownBy hg (fun j o hj ho => ?_)) (KeepsOthers.setCell _ _ _)
    obtain ⟨cells, hc⟩ := hty j hj
    rw [ho] at hc
    injection hc with hc
    subst hc
    rfl
  · refine (Keep80.grown hg (fun k hk => ?_)).trans (Keep80.set b4 (by decide))
    obtain ⟨cells, hc⟩ := hty k hk
    exact ⟨cells, 71, hc, by decide⟩
def UInv (A : Option Addr) (c : Nat) (xs : List S80) (w : World) (a : Act) (W : World) : Prop :=
  ∃ (u5 u6 u7 u11 u12 u13 u14 u15 u16 u17 u18 u19 u20 u21 u22 u23 u24 u25 u26 u27 u28 u29 u30 u31 u32 u33 u34 u35 u36 u37 u38 u39 u40 u41 u42 u43 u44 u45 u46 u47 u48 u49 u50 u51 u52 u53 u54 u55 u56 u57 u58 u59 u60 u61 u62 u63 u64 u65 u66 u67 : Value) (i : Int) (out : List S71) (v : Value) (rs : List Nat), a = { tmps := #[.slice A xs.length c, undef, .pointer (some ⟨w.heap.size, 0, none⟩), .pointer (some ⟨w.heap.size + 1, 0, none⟩), .pointer (some ⟨w.heap.size + 1 + 1, 0, none⟩), u5, u6, u7, .slice A xs.length c, .int .i64 (xs.length : Int), .int .i64 i, u11, u12, u13, u14, u15, u16, u17, u18, u19, u20, u21, u22, u23, u24, u25, u26, u27, u28, u29, u30, u31, u32, u33, u34, u35, u36, u37, u38, u39, u40, u41, u42, u43, u44, u45, u46, u47, u48, u49, u50, u51, u52, u53, u54, u55, u56, u57, u58, u59, u60, u61, u62, u63, u64, u65, u66, u67], defers := marksOf rs } ∧ Aside0 (0 ≤ i ∧ i ≤ xs.length ∧ unpackGo (xs.drop i.toNat) out = unpackGo xs [] ∧ out.length ≤ 271) ∧ Aside0 (UI w out v rs W)
set_option maxRecDepth 100000 in
set_option maxHeartbeats 8000000 in
theorem unpack_calls (A : Option Addr) (c : Nat) (xs : List S80) (w : World) (hr : Kd.C k80 w A xs.length xs) (hc : xs.length ≤ c) :
    Calls Try.prog 15 #[.slice A xs.length c] w (UPost xs w) := by
  have hu80 := Try.underlying80
  have hu71 := Try.underlying71
  have HR := Aside0.mk hr
  have HM := Aside0.mk hr.2.1
  clear hr
  refine (callsIn_wide (n := 3)).1 ?_
  refine callsIn_of_wp_marks Try.func15 rfl trivial ?_ rfl
  simp only [Try.ntmps15, List.size_toArray, List.length_cons, List.length_nil, Nat.reduceAdd, Nat.reduceSub, Array.replicate_succ, Array.replicate_zero, List.push_toArray, List.append_toArray, List.nil_append, List.cons_append]
  gi_wp2
  refine wpIn_loop (UInv A c xs w) (fun a _ => xs.length - (intOf (a.tmps.getD 10 undef)).toNat) ?_ ?_
  · refine ⟨undef, undef, undef, undef, undef, undef, undef, undef, undef, undef, undef, undef, undef, undef, undef, undef, undef, undef, undef, undef, undef, undef, undef, undef, undef, undef, undef, undef, undef, undef, undef, undef, undef, undef, undef, undef, undef, undef, undef, undef, undef, undef, undef, undef, undef, undef, undef, undef, undef, undef, undef, undef, undef, undef, undef, undef, undef, undef, undef, undef, 0, [], .slice none 0 0, [], rfl, ⟨by omega, by omega, rfl, by simp⟩, ⟨?_⟩⟩
    refine ⟨?_, ?_, ?_, Kd.R_nil _ _ _ _ _, below_alloc (below_alloc (below_alloc (Below.refl _ _) _) _) _, List.nodup_nil, fun r hr => (by cases hr)⟩
    · rw [← World.size_alloc w (.cells #[.slice none 0 0] 23), ← World.size_alloc (w.alloc (.cells #[.slice none 0 0] 23)) (.cells #[.int .i64 0] 28)]
      exact blk_new _ _
    · exact blk_alloc (blk_alloc (blk_new _ _) _) _
    · rw [← World.size_alloc w (.cells #[.slice none 0 0] 23)]
      exact blk_alloc (blk_new _ _) _
  · rintro a W ⟨u5, u6, u7, u11, u12, u13, u14, u15, u16, u17, u18, u19, u20, u21, u22, u23, u24, u25, u26, u27, u28, u29, u30, u31, u32, u33, u34, u35, u36, u37, u38, u39, u40, u41, u42, u43, u44, u45, u46, u47, u48, u49, u50, u51, u52, u53, u54, u55, u56, u57, u58, u59, u60, u61, u62, u63, u64, u65, u66, u67, i, out, v, rs, rfl, HI, HU⟩
    have h0 := HI.out.1
    by_cases hlt : i < (xs.length : Int)
    · obtain ⟨ad, e, y0, y1, y2, y3, y4, y5, y6, y7, y8⟩ := at_T80 (Kd.C_below HR.out HU.out.2.2.2.2.1) i h0 hlt
      cases e
      obtain ⟨p, hp⟩ : ∃ p, rd_T80 xs i = p := ⟨_, rfl⟩
      rw [hp] at y0 y1 y2 y3 y4 y5 y6 y7 y8
      have HP := Aside0.mk hp
      clear hp
      obtain ⟨A1, c1, hv, hRC⟩ : ∃ (A1 : Option Addr) (c1 : Nat), v = .slice A1 out.length c1 ∧ Aside0 (Kd.C k71 W A1 out.length out ∧ out.length ≤ c1) := by
        obtain ⟨A1, c1, hv⟩ := Kd.R_slice HU.out.2.2.2.1
        subst hv
        have := Kd.R_reads' HU.out.2.2.2.1
        exact ⟨A1, c1, by rw [this.1], ⟨this.2.2, by omega⟩⟩
      subst hv
      have g4 : W.cell? ⟨w.heap.size + 1 + 1, 0, none⟩ = some (.slice A1 out.length c1) := blk_cell HU.out.1 0
      have hn1 : w.heap.size + 1 + 1 < W.heap.size := blk_lt HU.out.1
      have z2 : W.cell? ⟨w.heap.size, 0, none⟩ = some (.slice none 0 0) := blk_cell HU.out.2.1 0
      have z3 : W.cell? ⟨w.heap.size + 1, 0, none⟩ = some (.int .i64 0) := blk_cell HU.out.2.2.1 0
      have f2 := blk_frozen HU.out.2.1 0
      have f3 := blk_frozen HU.out.2.2.1 0
      have hn2 : w.heap.size < W.heap.size := blk_lt HU.out.2.1
      have hn3 : w.heap.size + 1 < W.heap.size := blk_lt HU.out.2.2.1
      have hq : wrap64 ((out.length : Int) / 16) = (out.length : Int) / 16 := by
        have := HI.out.2.2.2
        unfold wrap64; omega
      have HF : badPiece p out = true → unpackF xs = ([], 2) := fun hb => by
        have h1 := HI.out.2.2.1
        rw [List.drop_eq_getElem_cons (show i.toNat < xs.length by omega)] at h1
        have h2 : xs[i.toNat]'(by omega) = p := by
          rw [← HP.out]; simp [rd_T80, List.getD_eq_getElem?_getD, List.getElem?_eq_getElem (show i.toNat < xs.length by omega)]
        rw [h2] at h1
        simp only [unpackGo] at h1
        rw [if_pos hb] at h1
        simp only [unpackF, ← h1]
      cases b1 : (p.f0 != (out.length : Int) / 16) with
      | true =>
        have HF2 := Aside0.mk (HF (by unfold badPiece; rw [b1]; rfl))
        clear HF
        gi_wp2
        exact fin_leaves HF2.out rfl rfl ((UI_fail HU.out).2.alloc _) (UFin_alloc (UI_fail HU.out).1 _)
      | false =>
        cases b2 : (p.f1 != (out.length : Int) % 16) with
        | true =>
          have HF2 := Aside0.mk (HF (by unfold badPiece; rw [b1, b2]; rfl))
          clear HF
          gi_wp2
          exact fin_leaves HF2.out rfl rfl ((UI_fail HU.out).2.alloc _) (UFin_alloc (UI_fail HU.out).1 _)
        | false =>
          cases b3 : decide (p.f2 ≤ p.f1) with
          | true =>
            have HF2 := Aside0.mk (HF (by unfold badPiece; rw [b1, b2, b3]; rfl))
            clear HF
            gi_wp2
            exact fin_leaves HF2.out rfl rfl ((UI_fail HU.out).2.alloc _) (UFin_alloc (UI_fail HU.out).1 _)
          | false =>
            cases b4 : decide (p.f2 > 16) with
            | true =>
              have HF2 := Aside0.mk (HF (by unfold badPiece; rw [b1, b2, b3, b4]; rfl))
              clear HF
              gi_wp2
              exact fin_leaves HF2.out rfl rfl ((UI_fail HU.out).2.alloc _) (UFin_alloc (UI_fail HU.out).1 _)
            | false =>
              cases b5 : decide ((out.length : Int) ≥ 256) with
              | true =>
                have HF2 := Aside0.mk (HF (by unfold badPiece; rw [b1, b2, b3, b4, b5]; rfl))
                clear HF
                gi_wp2
                exact fin_leaves HF2.out rfl rfl ((UI_fail HU.out).2.alloc _) (UFin_alloc (UI_fail HU.out).1 _)
              | false =>
                clear HF
                have HB := Aside0.mk (And.intro b1 (And.intro b2 (And.intro b3 (And.intro b4 b5))))
                gi_wp2_with fail
                refine ⟨trivial, (callsIn_wide.2 (pixels_calls _ _ _ _)).mono ?_⟩
                rintro e w' ⟨rfl, rfl⟩
                gi_wp2_with fail
                generalize ha0 : ({ tmps := _, defers := marksOf rs } : Act) = a0
                generalize hW3 : World.alloc _ (Obj.cells #[.slice (some ⟨W.heap.size + 1, 0, none⟩) 1 1] 27) = W3
                have hU3 : UI w out (.slice A1 out.length c1) rs W3 := by rw [← hW3]; exact UI_alloc (UI_alloc (UI_alloc HU.out _) _) _
                have hsz : W3.heap.size = W.heap.size + 1 + 1 + 1 := by rw [← hW3, World.size_alloc, World.size_alloc, World.size_alloc]
                have hBs : W3.cell? ⟨W.heap.size + 1 + 1, 0, none⟩ = some (.slice (some ⟨W.heap.size + 1, 0, none⟩) 1 1) := by
                  rw [← hW3, ← World.size_alloc W (.cells (cellsP p) 80), ← World.size_alloc (W.alloc (.cells (cellsP p) 80)) (.cells (cellsP p) 80)]
                  exact blk_cell (blk_new _ _) 0
                have hgs : W3.heap[W.heap.size + 1]? = some (.cells (cellsP p) 80 (0, 0)) := by
                  rw [← hW3, ← World.size_alloc W (.cells (cellsP p) 80)]
                  exact blk_alloc (blk_new _ _) _
                have hrs : ∀ r ∈ rs, r < W3.heap.size := fun r hr => blk_lt (hU3.2.2.2.2.2.2 r hr).2
                have hwB : w.heap.size ≤ W3.heap.size := hU3.2.2.2.2.1.size
                have hp1 : p.f1 = (out.length : Int) % 16 := bne_eq_false_iff_eq.1 HB.out.2.1
                have hp2 : ¬ p.f2 ≤ p.f1 := of_decide_eq_false HB.out.2.2.1
                have hp3 : ¬ p.f2 > 16 := of_decide_eq_false HB.out.2.2.2.1
                have hp4 : ¬ (out.length : Int) ≥ 256 := of_decide_eq_false HB.out.2.2.2.2
                obtain ⟨N, hN⟩ : ∃ N : Nat, p.f2 - p.f1 = (N : Int) := ⟨(p.f2 - p.f1).toNat, by omega⟩
                have hN16 : N ≤ 16 := by omega
                have hNw : wrap64 (p.f2 - p.f1) = (N : Int) := by unfold wrap64; omega
                have HNN := Aside0.mk hN
                have HNW := Aside0.mk hNw
                have HOL := Aside0.mk hp4
                clear hp1 hp2 hp3 hp4 hN hNw hq b1 b2 b3 b4 b5
                refine wpIn_rangeFunc_ownH rfl (by decide) (gf := 63) (lb := #[.pointer (some ⟨W.heap.size + 1 + 1, 0, none⟩)]) (by rw [← ha0]; rfl) trivial (enters_of Try.func63 (by kernel_rfl) rfl)
                  (pixels_stops 2 (W.heap.size + 1 + 1) (W.heap.size + 1) p N HNW.out hN16 W3 hBs hgs) (fun h k => h.trans k) (fun W l o o' _ hl ho _ => Keep80.putObj W l o o' hl ho) (Below.refl _ _) (fun _ => rfl)
                  (fun pre W' => (∃ v, UI w (out ++ pre) v rs W') ∧ pre.any badS = false ∧ W3.heap.size ≤ W'.heap.size)
                  (fun c pre W' => (c = .ret ∧ pre.any badS = true) ∧ badOut w rs W')
                  (fun s X Y row hs hg hr => ⟨hs.1.imp fun v hv => UI_own hv hg hr hrs hwB, hs.2.1, Nat.le_trans hs.2.2 hg.size⟩)
                  (fun c s X Y row hs hg hr => ⟨hs.1, badOut_own hs.2 hg hr hrs hwB⟩)
                  ⟨⟨_, by rw [List.append_nil]; exact hU3⟩, rfl, Nat.le_refl _⟩
                  (fun x a' W' => ∃ Bx, W3.heap.size ≤ Bx ∧ W'.heap[Bx]? = some (.cells (cellsS x) 71 (0, 0)) ∧ a' = { tmps := (a0.tmps.setIfInBounds 48 (.agg (cellsS x))).setIfInBounds 7 (.pointer (some ⟨Bx, 0, none⟩)), defers := [] })
                  (fun x a' u X Y row hs hg hr => by
                    obtain ⟨Bx, h1, h2, h3⟩ := hs
                    exact ⟨Bx, h1, blk_own h2 hg hr, h3⟩)
                  ?assign ?body ?done ?stop
                case assign =>
                  rintro l pre x W' K hI hK
                  subst ha0
                  gi_wp2
                  exact hK _ _ ((KeepsOthers.alloc _ _).from _) (Keep80.of_below (below_alloc (Below.refl _ _) _)) ⟨hI.1.imp fun v hv => UI_alloc hv _, hI.2.1, by simp; have := hI.2.2; omega⟩ ⟨W'.heap.size, hI.2.2, blk_new _ _, rfl⟩
                case body =>
                  rintro l pre x a' W' hl ⟨r, hlr⟩ ⟨⟨v, hI⟩, hgood, hge⟩ ⟨Bx, hBx, hX, rfl⟩ hlen
                  subst ha0
                  have x0 : W'.cell? ⟨Bx, 0, none⟩ = some (.int .i64 x.f0) := blk_cell hX 0
                  have x1 : W'.cell? ⟨Bx, 1, none⟩ = some (.int .i64 x.f1) := blk_cell hX 1
                  have x2 : W'.cell? ⟨Bx, 2, none⟩ = some (.int .i64 x.f2) := blk_cell hX 2
                  have x3 : W'.cell? ⟨Bx, 3, none⟩ = some (.int .u64 x.f3) := blk_cell hX 3
                  cases hv : validB x.f0 x.f1 x.f2 x.f3 with
                  | true =>
                    have hbx : badS x = false := by simp [badS, hv]
                    have HV := Aside0.mk hv
                    clear hv
                    gi_wp2_with fail
                    refine ⟨trivial, (CallsIn.inRound l (callsIn_wide.2 (valid_calls _ _ _ _ _))).mono ?_⟩
                    rintro e w5 ⟨rfl, hb5⟩
                    rw [HV.out]
                    have HI5 := Aside0.mk (UI_below hI hb5)
                    have g4 : w5.cell? ⟨w.heap.size + 1 + 1, 0, none⟩ = some v := blk_cell HI5.out.1 0
                    have x0 := pw_cell_below hb5 x0
                    have x1 := pw_cell_below hb5 x1
                    have x2 := pw_cell_below hb5 x2
                    have x3 := pw_cell_below hb5 x3
                    have HBB := Aside0.mk hb5
                    have HLE := Aside0.mk hlen
                    clear hb5 hlen
                    gi_wp2_with (gi_at_builtin; refine R_append_in k71 (w0 := w) w.heap.size rfl (.tmp 52) (.tmp 54) 23 71 (.agg #[(.int .i64 0), (.int .i64 0), (.int .i64 0), (.int .u64 0)]) 32 rfl Try.underlying23 info71 rfl (by decide) (by omega) v (out ++ pre) x [.int .i64 x.f0, .int .i64 x.f1, .int .i64 x.f2, .int .u64 x.f3] (fun _ => True) (fun _ => False) rfl rfl ?aP (fun _ hk => hk.elim) (fun _ _ => trivial) HI5.out.2.2.2.1 HI5.out.2.2.2.2.1 ?aS ?aL ?_; (case aP => exact k71_mkM _ _ _ x); (case aS => exact HI5.out.2.2.2.2.1.size); (case aL => have h1 := HLE.out; have h2 := HOL.out; rw [List.length_append]; omega); intro v1 w6 ho hb hg hat; have HA := Aside0.mk (UI_append HI5.out ho hg hb); have m4 : w6.cell? ⟨w.heap.size + 1 + 1, 0, none⟩ = some v := blk_cell (blk_grown HI5.out.1 hg (Kd.R_ne HI5.out.2.2.2.1 HI5.out.1 (by decide))) 0; have mf := blk_frozen (blk_grown HI5.out.1 hg (Kd.R_ne HI5.out.2.2.2.1 HI5.out.1 (by decide))) 0; obtain ⟨A9, c9, hv9⟩ := Kd.R_slice ho; subst hv9; clear ho hb hg hat)
                    have e9 : (out ++ pre ++ [x]).length = out.length + (pre.length + 1) := by simp
                    have HA := HA.out
                    rw [e9] at HA
                    have k0 : KeepsOthers W' w5 := KeepsOthers.of_grownBy (grown_of_below HBB.out none) (fun j o hj => by cases hj)
                    exact ⟨(k0.trans HA.2.1).from _, (Keep80.of_below HBB.out).trans HA.2.2, ⟨_, by rw [← List.append_assoc]; exact HA.1⟩, by rw [List.any_append, hgood]; simp [hbx], Nat.le_trans hge (Nat.le_trans k0.size HA.2.1.size)⟩
                  | false =>
                    have hbx : badS x = true := by simp [badS, hv]
                    have HV := Aside0.mk hv
                    clear hv
                    gi_wp2_with fail
                    refine ⟨trivial, (CallsIn.inRound l (callsIn_wide.2 (valid_calls _ _ _ _ _))).mono ?_⟩
                    rintro e w5 ⟨rfl, hb5⟩
                    rw [HV.out]
                    have HI5 := Aside0.mk (UI_below hI hb5)
                    have HBB := Aside0.mk hb5
                    clear hb5
                    have z2 : w5.cell? ⟨w.heap.size, 0, none⟩ = some (.slice none 0 0) := blk_cell HI5.out.2.1 0
                    have z3 : w5.cell? ⟨w.heap.size + 1, 0, none⟩ = some (.int .i64 0) := blk_cell HI5.out.2.2.1 0
                    have f2 := blk_frozen HI5.out.2.1 0
                    have f3 := blk_frozen HI5.out.2.2.1 0
                    gi_wp2_with fail
                    have k0 : KeepsOthers W' w5 := KeepsOthers.of_grownBy (grown_of_below HBB.out none) (fun j o hj => by cases hj)
                    exact ⟨((k0.trans (KeepsOthers.setCell _ _ _)).trans (KeepsOthers.setCell _ _ _)).from _, ⟨rfl, by rw [List.any_append]; simp [hbx]⟩, UI_fail HI5.out⟩
                case done =>
                  rintro D ys W' hD rfl ⟨⟨v, hI⟩, hgood, hge⟩ hK
                  subst ha0
                  have HI5 := Aside0.mk hI
                  have HGG := Aside0.mk hgood
                  have HK5 := Aside0.mk hK
                  clear hI hgood hK
                  gi_wp2
                  have hw : wrap64 (i + 1) = i + 1 := by
                    have := HM.out
                    unfold wrap64; omega
                  have hbp : badPiece p out = false := by
                    have h := HB.out
                    unfold badPiece
                    rw [h.1, h.2.1, h.2.2.1, h.2.2.2.1, h.2.2.2.2]; rfl
                  have hstep := HI.out.2.2.1
                  rw [drop_at h0 hlt HP.out] at hstep
                  simp only [unpackGo] at hstep
                  rw [hbp, if_neg (by simp), HNN.out, Int.toNat_natCast, HGG.out, if_neg (by simp)] at hstep
                  have h256 := HOL.out
                  refine ⟨⟨_, _, _, _, _, _, _, _, _, _, _, _, _, _, _, _, _, _, _, _, _, _, _, _, _, _, _, _, _, _, _, _, _, _, _, _, _, _, _, _, _, _, _, _, _, _, _, _, _, _, _, _, _, _, _, _, _, _, _, _, wrap64 (i + 1), out ++ pixs p N, v, D :: rs, rfl, ⟨by rw [hw]; omega, by rw [hw]; omega, by rw [hw]; exact hstep, by rw [List.length_append, pixs_length]; omega⟩, ⟨HI5.out.1, HI5.out.2.1, HI5.out.2.2.1, HI5.out.2.2.2.1, HI5.out.2.2.2.2.1, ?_⟩⟩, ?_⟩
                  · refine ⟨List.nodup_cons.2 ⟨fun hmem => ?_, HI5.out.2.2.2.2.2.1⟩, fun r hr => ?_⟩
                    · have := hrs D hmem
                      omega
                    · rcases List.mem_cons.1 hr with rfl | hr
                      · exact ⟨Nat.le_trans hwB hD, HK5.out⟩
                      · exact HI5.out.2.2.2.2.2.2 r hr
                  · rw [hw]; simp [intOf]; omega
                case stop =>
                  rintro D cc pre W' hD ⟨k, hk, rfl⟩ ⟨⟨rfl, hbad⟩, hI⟩ hK
                  subst ha0
                  gi_wp2
                  have hbp : badPiece p out = false := by
                    have h := HB.out
                    unfold badPiece
                    rw [h.1, h.2.1, h.2.2.1, h.2.2.2.1, h.2.2.2.2]; rfl
                  have hstep := HI.out.2.2.1
                  rw [drop_at h0 hlt HP.out] at hstep
                  simp only [unpackGo] at hstep
                  rw [hbp, if_neg (by simp), HNN.out, Int.toNat_natCast, pixs_any_le hk hbad, if_pos rfl] at hstep
                  refine fin_leaves (rs := D :: rs) (v := .slice none 0 0) (e := 2) (res := []) (by simp only [unpackF, ← hstep]) rfl rfl ⟨List.nodup_cons.2 ⟨fun hmem => ?_, hI.2.1⟩, fun r hr => ?_⟩ hI.1
                  · have := hrs D hmem
                    omega
                  · rcases List.mem_cons.1 hr with rfl | hr
                    · exact ⟨Nat.le_trans hwB hD, hK⟩
                    · exact hI.2.2 r hr
    · obtain ⟨A1, c1, hv, hRC⟩ : ∃ (A1 : Option Addr) (c1 : Nat), v = .slice A1 out.length c1 ∧ Aside0 (Kd.C k71 W A1 out.length out ∧ out.length ≤ c1) := by
        obtain ⟨A1, c1, hv⟩ := Kd.R_slice HU.out.2.2.2.1
        subst hv
        have := Kd.R_reads' HU.out.2.2.2.1
        exact ⟨A1, c1, by rw [this.1], ⟨this.2.2, by omega⟩⟩
      subst hv
      have g4 : W.cell? ⟨w.heap.size + 1 + 1, 0, none⟩ = some (.slice A1 out.length c1) := blk_cell HU.out.1 0
      have z2 : W.cell? ⟨w.heap.size, 0, none⟩ = some (.slice none 0 0) := blk_cell HU.out.2.1 0
      have z3 : W.cell? ⟨w.heap.size + 1, 0, none⟩ = some (.int .i64 0) := blk_cell HU.out.2.2.1 0
      have f2 := blk_frozen HU.out.2.1 0
      have f3 := blk_frozen HU.out.2.2.1 0
      have HE : Aside0 (unpackGo xs [] = some out) := ⟨by
        have h1 := HI.out.2.2.1
        rw [List.drop_eq_nil_of_le (by omega)] at h1
        exact h1.symm⟩
      by_cases hl : (out.length : Int) = 256
      · have hlb : ((out.length : Int) != 256) = false := bne_eq_false_iff_eq.2 hl
        have HL := Aside0.mk hl
        clear hl
        gi_wp2_with fail
        have hl2 : out.length = 256 := by have := HL.out; omega
        have hpk : Calls Try.prog 41 #[.slice A1 out.length c1] W fun e w' => ∃ v0_, e = .returned v0_ ∧ Kd.R k80 80 w' W.heap.size (fun _ => True) v0_ (packL out) ∧ Below W.heap.size W w' := by
          have h := pack_calls A1 c1 out W hl2 (by have := hRC.out.1; rwa [hl2] at this) (by have := hRC.out.2; omega)
          rw [hl2]; exact h
        have HL2 := Aside0.mk hl2
        clear hl2
        refine ⟨trivial, (callsIn_wide.2 hpk).mono ?_⟩
        clear hpk
        rintro e w5 ⟨v5, rfl, ho5, hb5⟩
        obtain ⟨A5, c5, hv5, hC5⟩ : ∃ (A5 : Option Addr) (c5 : Nat), v5 = .slice A5 (packL out).length c5 ∧ Aside0 (Kd.C k80 w5 A5 (packL out).length (packL out) ∧ (packL out).length ≤ c5) := by
          obtain ⟨A5, c5, hv⟩ := Kd.R_slice ho5
          subst hv
          have := Kd.R_reads' ho5
          exact ⟨A5, c5, by rw [this.1], ⟨this.2.2, by omega⟩⟩
        subst hv5
        obtain ⟨k, b, hk, hbb⟩ := eqPieces (packL out) xs hC5.out.1.2.1
        have HK := Aside0.mk hk
        have HBB := Aside0.mk hbb
        have HI5 := Aside0.mk (UI_below HU.out hb5)
        have HC5 := Aside0.mk (Kd.C_below HR.out HI5.out.2.2.2.2.1)
        clear hk hbb ho5 hb5
        gi_wp2_with fail
        refine ⟨trivial, (callsIn_wide.2 (prov_Piece.calls k A5 c5 (packL out) A c xs b _ hC5.out.1 hC5.out.2 HC5.out hc HK.out)).mono ?_⟩
        rintro e w6 ⟨rfl, hd6⟩
        have HI6 := Aside0.mk (UI_below HI5.out hd6.below)
        clear hd6
        have g4 : w6.cell? ⟨w.heap.size + 1 + 1, 0, none⟩ = some (.slice A1 out.length c1) := blk_cell HI6.out.1 0
        have z2 : w6.cell? ⟨w.heap.size, 0, none⟩ = some (.slice none 0 0) := blk_cell HI6.out.2.1 0
        have z3 : w6.cell? ⟨w.heap.size + 1, 0, none⟩ = some (.int .i64 0) := blk_cell HI6.out.2.2.1 0
        have f2 := blk_frozen HI6.out.2.1 0
        have f3 := blk_frozen HI6.out.2.2.1 0
        cases b with
        | true =>
          gi_wp2_with fail
          have hx : packL out = xs := HBB.out.1 (by simp)
          exact fin_leaves (v := .slice A1 out.length c1) (e := 0) (res := out) (by simp only [unpackF, HE.out]; rw [if_pos HL.out, if_pos hx]) rfl rfl (UI_done HI6.out).2 (UI_done HI6.out).1
        | false =>
          gi_wp2_with fail
          have hx : ¬ packL out = xs := fun h => by simpa using HBB.out.2 h
          exact fin_leaves (by simp only [unpackF, HE.out]; rw [if_pos HL.out, if_neg hx]) rfl rfl (UI_fail HI6.out).2 (UI_fail HI6.out).1
      · have hlb : ((out.length : Int) != 256) = true := bne_iff_ne.2 hl
        have HL := Aside0.mk hl
        clear hl
        gi_wp2_with fail
        refine ⟨trivial, ?_⟩
        gi_wp2_with fail
        refine ⟨trivial, ?_⟩
        gi_wp2_with fail
        exact fin_leaves (by simp only [unpackF, HE.out]; rw [if_neg HL.out]) rfl rfl (UI_fail HU.out).2 (UI_fail HU.out).1
end Go.Proofs.Ytgmbjgddelcceaa.P
