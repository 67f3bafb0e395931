import Derived.Test.YtcbkcgnigncahaaDGivenYb
import Derived.Test.YtcbkcgnigncahaaDGivenXe
namespace Go.Proofs.Ytcbkcgnigncahaa.P
open Go.RowKit Go.Maps Go.Proofs Go.Proofs.YtcbkcgnigncahaaW.PrintWords Go.Proofs.YtcbkcgnigncahaaW.PrintLast Go.Proofs.YtcbkcgnigncahaaW.PrintMore
open Go.Proofs.YtcbkcgnigncahaaW.PrintWords.Kd
attribute [local go_sem] max2_int min2_int max_two min_two max_three min_three max_four min_four
set_option linter.unusedVariables false
set_option linter.unusedSimpArgs false
section
variable {P : Program} {ops : Array Oper} {o : Oper} {a : Act} {Q : Exit → Act → World → Prop} {Kc : Act → World → Prop} {α : Type}
theorem R_append_rows_step (d : Kd α) {Rr : α → List Value → Prop} {w0 W : World} (base : Nat) (hw : Region.wanted o (yielded ops a.tmps) = true) (s x : Operand) (t e : TypeId) (z : Value) (bytes : Nat)
    (ho : o.op = .call { callee := .builtin .append, args := #[s, x], argTypes := #[t, t] })
    (ht : P.underlying t = some (.slice e)) (hinfo : (P.info? e).map (fun i => (i.zero, i.size, i.bytes)) = some (some z, d.sz, bytes)) (hz : z.cells.size = d.sz) (hs0 : 0 < d.sz) (hb0 : 0 < bytes)
    (v : Value) (xs ys : List α) (A : Option Addr) (m c : Nat) (ok okp : Nat → Prop) (hs : a.eval s = v) (hx : a.eval x = .slice A m c)
    (HO : d.R e W base ok v xs) (HR : ReadsRow Rr d.sz W A m ys) (hKM : ∀ x cs, Rr x cs → d.M W base okp x cs) (hokp : ∀ k, okp k → ok k ∧ some k ≠ v.ownBlock) (hfresh : ∀ k, W.heap.size ≤ k → ok k)
    (HB : Below base w0 W) (hbase : base ≤ W.heap.size) (hl : (xs.length + m) * bytes ≤ 140737488355328)
    (h : ∀ v1 w1, d.R e w1 base ok v1 (xs ++ ys) → Below base w0 w1 → W.grownBy w1 v.ownBlock → (v1.ownBlock = v.ownBlock ∨ ∃ b, v1.ownBlock = some b ∧ W.heap.size ≤ b) → Kc (a.put o.dst v1) w1) :
    if Region.wanted o (yielded ops a.tmps) = true then Oper.wp P o a W Kc Q else Kc (a.put o.dst undef) W := by
  obtain ⟨i0, hi, hzz⟩ := Option.map_eq_some_iff.1 hinfo
  simp only [Prod.mk.injEq] at hzz
  obtain ⟨hz0, hz1, hz2⟩ := hzz
  have hm : ys.length = m := HR.1
  have hlen : xs.length + m ≤ 140737488355328 := Nat.le_trans (Nat.le_mul_of_pos_right _ hb0) hl
  obtain ⟨hok, inner, hown, hr⟩ := HO
  have hrun : ∃ v1 w1, (Builtin.append_ #[t, t] o.type #[v, .slice A m c]).run P W = .ok v1 w1 ∧ d.R e w1 base ok v1 (xs ++ ys) ∧ W.grownBy w1 v.ownBlock ∧ (v1.ownBlock = v.ownBlock ∨ ∃ b, v1.ownBlock = some b ∧ W.heap.size ≤ b) := by
    rcases A with _ | ad
    · have h0 : m = 0 := by
        rcases Nat.eq_zero_or_pos m with h0 | h0
        · exact h0
        · obtain ⟨ad, h, _⟩ := HR.2.2 h0
          cases h
      subst h0
      obtain rfl : ys = [] := List.eq_nil_of_length_eq_zero hm
      refine ⟨v, W, ?_, by rw [List.append_nil]; exact ⟨hok, inner, hown, hr⟩, World.grownBy.refl W _, .inl rfl⟩
      rcases hown.2 with ⟨rfl, hn⟩ | ⟨g, cap, cur, rfl, _, _, hnc, _⟩
      · simp [Builtin.append_, run_underlying ht, sizeOf, typeInfo, hi, Builtin.lenOf, Builtin.firstCells]
      · simp [Builtin.append_, run_underlying ht, sizeOf, typeInfo, hi, Builtin.lenOf, Builtin.firstCells, hnc, storeCells]
    · obtain ⟨news, hnr, hnc⟩ := ReadsRow.inner_ HR
      have hnM : Reps (d.M W base okp) d.sz ys news := hnr.imp_ (fun p c hp => hKM p c hp)
      have hone : ∀ u ∈ news, u.oneCell' = true := by
        intro u hu
        obtain ⟨q, hq, rfl⟩ := List.mem_iff_getElem.1 hu
        have hql : q / d.sz < ys.length := by
          rw [Nat.div_lt_iff_lt_mul hs0]
          rw [← hnM.1]
          exact hq
        have hc := hnM.2 (q / d.sz) _ (List.getElem?_eq_getElem hql)
        refine d.K_one (d.K_of_M hc) _ ?_
        rw [List.mem_iff_getElem?]
        refine ⟨q % d.sz, ?_⟩
        rw [List.getElem?_take, if_pos (Nat.mod_lt _ hs0), List.getElem?_drop, Nat.mul_comm, Nat.div_add_mod, List.getElem?_eq_getElem hq]
      obtain ⟨v1, w1, hrun, h2, hg, _, hat⟩ := run_append_own_at (P := P) W base t o.type e i0 z d.sz bytes ht hi hz0 hz1 hz2 hz hs0 v xs.length inner hown ad m c news (by rw [hnM.1, hm]) hnc hone (by simp only [maxLen]; omega) hl hbase
      have hat' : v1.ownBlock = v.ownBlock ∨ ∃ b, v1.ownBlock = some b ∧ W.heap.size ≤ b := by
        rcases hat with hat | hat
        · exact .inl hat
        · exact .inr ⟨_, hat, Nat.le_refl _⟩
      have hne : ∀ k, some k ≠ v.ownBlock → k < W.heap.size → some k ≠ v1.ownBlock := by
        intro k hk hlt
        rcases hat' with hat | ⟨b, hb, hle⟩
        · rw [hat]; exact hk
        · rw [hb]
          intro he
          injection he with he
          omega
      have step : ∀ {q : α} {c : List Value} {o : Nat → Prop}, d.M W base o q c → (∀ k, o k → ok k ∧ some k ≠ v.ownBlock) → d.M w1 base (fun k => ok k ∧ some k ≠ v1.ownBlock) q c := by
        intro q c o hq ho
        have h1 := d.M_move (w1 := w1) (fun k hk => hg.block k hk.2.2.1 (ho k hk.1).2) (d.M_bound hq)
        exact d.M_mono (fun k hk => ⟨(ho k hk.1).1, hne k (ho k hk.1).2 hk.2.2.1⟩) h1
      refine ⟨v1, w1, hrun, ⟨fun k hk => ?_, inner ++ news, by rw [List.length_append, hm]; exact h2, reps_append (hr.imp_ (fun _ _ hq => step hq (fun _ hk => hk))) (hnM.imp_ (fun _ _ hq => step hq hokp))⟩, hg, hat'⟩
      rcases hat' with hat | ⟨b, hb, hle⟩
      · exact hok k (hat ▸ hk)
      · rw [hb] at hk
        injection hk with hk
        exact hfresh k (by omega)
  obtain ⟨v1, w1, hr1, h1, hg, hat⟩ := hrun
  rw [if_pos hw]
  unfold Oper.wp execOp
  simp only [ho, resolve, invoke, builtin, Sem.run_bind, Sem.run_pure, Result.andThen_ok, List.map_toArray, List.map_cons, List.map_nil, hs, hx, hr1]
  exact (h v1 w1 h1 (HB.grown hg hbase (own_base hown)) hg hat)
end
theorem cell_keepD {w w1 : World} {a : Addr} {v : Value} (h : w.cell? a = some v) (hb : Below w.heap.size w w1) : w1.cell? a = some v := by
  have hl : a.block < w.heap.size := by
    rcases Nat.lt_or_ge a.block w.heap.size with h0 | h0
    · exact h0
    · exfalso
      rw [World.cell?, Array.getElem?_eq_none h0] at h
      cases h
  rw [World.cell?, hb.block _ hl]
  rw [World.cell?] at h
  exact h
set_option maxHeartbeats 4000000 in
set_option maxRecDepth 100000 in
theorem rcopy_calls (base g : Nat) (r : Rf) (w : World) (h : RS base g r w) (hl : r.B.length ≤ 2000) (hv : r.V.length ≤ 2000) :
    Calls Try.prog 30 #[.pointer (some ⟨g, 0, none⟩)] w fun e w' => ∃ g2, e = .returned (.pointer (some ⟨g2, 0, none⟩)) ∧ RS w.heap.size g2 r w' ∧ Below w.heap.size w w' := by
  have HS := Aside0.mk h
  obtain ⟨A, c, A', c', hg, c0, c1, z0, z1, hc, hc', hB, hV⟩ := h.cells
  clear h
  have hlt := HS.out.lt
  have HB := Aside0.mk hB
  have HV := Aside0.mk hV
  have C1 := Aside0.mk c1
  clear hB hV z0 z1 c1 hc hc' hg
  go_enter Try.func30, Try.ntmps30
  go_upto_region 2 with fail
  obtain ⟨w1, hw1⟩ : ∃ w1, w.alloc (.cells #[.slice none 0 0, .slice none 0 0] 53) = w1 := ⟨_, rfl⟩
  have hb1 : Below w.heap.size w w1 := hw1 ▸ below_alloc (Below.refl _ _) _
  have hn1 : w1.heap[w.heap.size]? = some (Obj.cells #[.slice none 0 0, .slice none 0 0] 53 (0, 0)) := by rw [← hw1]; exact blk_new w _
  rw [hw1]
  have d0 : w1.cell? ⟨g, 0, none⟩ = some (.slice A r.B.length c) := cell_keepD c0 hb1
  have e0 : w1.cell? ⟨w.heap.size, 0, none⟩ = some (.slice none 0 0) := blk_cell hn1 0
  have hlt1 : w.heap.size < w1.heap.size := blk_lt hn1
  have HB1 := Aside0.mk (Kd.R_below HB.out hb1)
  have HD := Aside0.mk hb1
  clear hw1 hb1 c0
  go_region_law
    ((refine R_append_rows_step k97 (Rr := k97.K w1.drew) (w0 := w1) (W := w1.drew) w1.heap.size (by rfl) (.tmp 10) (.tmp 14) 50 97 (.agg #[(.string ⟨#[]⟩), (.int .i64 0)]) 24 (by rfl) Try.underlying50 info97 rfl (by decide) (by omega) (.slice none 0 0) ([] : List S97) r.B A r.B.length c (fun _ => True) (fun _ => False) (by rfl) (by rfl) (Kd.R_nil _ _ _ _ _) (Kd.R_reads' (Kd.R_drew HB1.out)).2.2 ?aK (fun _ hk => hk.elim) (fun _ _ => trivial) (below_drew1 (Below.refl _ _)) (Nat.le_refl _) (by simp only [List.length_nil]; omega) ?_; (case aK => intro x cs hk; obtain rfl := k97_open hk; exact k97_mkM _ _ _ _); intro v1 w5 ho hb hg hat; have HO := Aside0.mk ho; have HB5 := Aside0.mk hb; have hn5 := blk_below hn1 hb; have q1 : w5.cell? ⟨w.heap.size, 0, none⟩ = some (.slice none 0 0) := blk_cell hn5 0; have qz : w5.frozen? ⟨w.heap.size, 0, none⟩ = false := blk_frozen hn5 0; have HN5 := Aside0.mk hn5; clear ho hb hg hat hn5; obtain ⟨A5, c5, rfl⟩ := Kd.R_slice HO.out))
  all_goals
    go_upto_region 3 with fail
    obtain ⟨w6, hw6⟩ : ∃ w6, w5.setCell ⟨w.heap.size, 0, none⟩ (.slice A5 r.B.length c5) = w6 := ⟨_, rfl⟩
    have hn6 : w6.heap[w.heap.size]? = some (Obj.cells #[.slice A5 r.B.length c5, .slice none 0 0] 53 (0, 0)) := by rw [← hw6]; exact blk_put HN5.out 0 _ rfl
    have hb6 : Below w.heap.size w w6 := by rw [← hw6]; exact (below_step HD.out HB5.out).setCell (Nat.le_refl _) _
    have HO6 : Aside0 (Kd.R k97 97 w6 w.heap.size (fun k => w1.heap.size ≤ k) (.slice A5 r.B.length c5) r.B) := ⟨by rw [← hw6]; exact Kd.R_lower (Kd.R_far (Kd.R_mono (Kd.R_bound HO.out) (fun k hk => hk.2.1)) (fun k hk => by simp only; omega) _) (Nat.le_of_lt hlt1)⟩
    have hs6 : w1.heap.size ≤ w6.heap.size := by rw [← hw6]; simpa [World.setCell] using HB5.out.size
    rw [hw6]
    have HV6 := Aside0.mk (Kd.R_below HV.out hb6)
    have HB6 := Aside0.mk hb6
    have HN6 := Aside0.mk hn6
    have d1 : w6.cell? ⟨g, 1, none⟩ = some (.slice A' r.V.length c') := cell_keepD C1.out hb6
    have e1 : w6.cell? ⟨w.heap.size, 1, none⟩ = some (.slice none 0 0) := blk_cell hn6 1
    clear hw6 hb6 q1 qz d0 e0
    go_region_law
      ((refine R_append_rows_step k92 (Rr := k92.K w6.drew) (w0 := w6) (W := w6.drew) w6.heap.size (by rfl) (.tmp 22) (.tmp 26) 51 92 (.agg #[(.int .i64 0), (.int .i64 0), (.string ⟨#[]⟩), (.int .i64 0), (.int .i64 0), (.int .i64 0), (.int .u64 0), (.bool false)]) 72 (by rfl) Try.underlying51 info92 rfl (by decide) (by omega) (.slice none 0 0) ([] : List S92) r.V A' r.V.length c' (fun _ => True) (fun _ => False) (by rfl) (by rfl) (Kd.R_nil _ _ _ _ _) (Kd.R_reads' (Kd.R_drew HV6.out)).2.2 ?aK (fun _ hk => hk.elim) (fun _ _ => trivial) (below_drew1 (Below.refl _ _)) (Nat.le_refl _) (by simp only [List.length_nil]; omega) ?_; (case aK => intro x cs hk; obtain rfl := k92_open hk; exact k92_mkM _ _ _ _); intro v1 w7 ho hb hg hat; have HO7 := Aside0.mk ho; have HB7 := Aside0.mk hb; have hn7 := blk_below HN6.out hb; have q1 : w7.cell? ⟨w.heap.size, 1, none⟩ = some (.slice none 0 0) := blk_cell hn7 1; have qz : w7.frozen? ⟨w.heap.size, 1, none⟩ = false := blk_frozen hn7 1; have HN7 := Aside0.mk hn7; clear ho hb hg hat hn7; obtain ⟨A7, c7, rfl⟩ := Kd.R_slice HO7.out))
    all_goals
      go_wp2
      go_returns
      refine ⟨w.heap.size, rfl, ⟨Nat.le_refl _, _, _, blk_put HN7.out 1 _ rfl, ?_, ?_⟩, (below_step HB6.out HB7.out).setCell (Nat.le_refl _) _⟩
      · exact Kd.R_far (Kd.R_mono (Kd.R_below HO6.out HB7.out) (fun k hk => by have hk2 : w1.heap.size ≤ k := hk; show k ≠ w.heap.size; omega)) (fun k hk => hk) _
      · exact Kd.R_far (Kd.R_lower (Kd.R_mono (Kd.R_bound HO7.out) (fun k hk => by have := hk.2.1; show k ≠ w.heap.size; omega)) (by omega)) (fun k hk => hk) _
end Go.Proofs.Ytcbkcgnigncahaa.P
