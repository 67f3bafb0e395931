import Derived.Test.YtcbkcgnigncahaaEGivenC
namespace Go.Proofs.Ytcbkcgnigncahaa.P
open Go.RowKit Go.Maps Go.Proofs.YtcbkcgnigncahaaW.PrintWords Go.Proofs.YtcbkcgnigncahaaW.PrintLast Go.Proofs.YtcbkcgnigncahaaW.PrintMore
attribute [local go_sem] max2_int min2_int max_two min_two max_three min_three max_four min_four
set_option linter.unusedVariables false
set_option linter.unusedSimpArgs false
def cells43 (x : S43) : List Value := [.int .i64 x.f0, .int .i64 x.f1, .string x.f2, .int .i64 x.f3, .int .i64 x.f4, .int .i64 x.f5, .int .u64 x.f6, .bool x.f7]
theorem put43 {W : World} {base g n cap : Nat} {ok : Nat → Prop} {xs : List S43} (h : Kd.R k43 43 W base ok (.slice (some ⟨g, 0, none⟩) n cap) xs) (i : Int) (h0 : 0 ≤ i) (h1 : i < n) (j : Nat) (hj : j < 8) (u : Value) (x' : S43)
    (hx : (cells43 (rd_T43 xs i)).take j ++ [u] ++ (cells43 (rd_T43 xs i)).drop (j + 1) = cells43 x') :
    Kd.R k43 43 (W.setCell ⟨g, i.toNat * 8 + j, none⟩ u) base ok (.slice (some ⟨g, 0, none⟩) n cap) (xs.set i.toNat x') ∧ W.grownBy (W.setCell ⟨g, i.toNat * 8 + j, none⟩ u) (some g) := by
  obtain ⟨c, hcl, hM, hcc, hfr⟩ := Kd.R_elem h z43 i h0 h1
  obtain rfl := k43_openM hM
  have h2 := Kd.R_seg h i h0 h1 (seg := [u]) (j := j) hcl hcc (by have : k43.sz = 8 := rfl; simp; omega) (x' := x') (okp := fun k => ok k ∧ k ≠ g) (by
    have := k43_mkM W base (fun k => ok k ∧ k ≠ g) x'
    have e : cells43 x' = [.int .i64 x'.f0, .int .i64 x'.f1, .string x'.f2, .int .i64 x'.f3, .int .i64 x'.f4, .int .i64 x'.f5, .int .u64 x'.f6, .bool x'.f7] := rfl
    rw [← e, ← hx] at this
    exact this) (fun _ hk => hk)
  exact h2
theorem cell43 {W : World} {base g n cap : Nat} {ok : Nat → Prop} {xs : List S43} (h : Kd.R k43 43 W base ok (.slice (some ⟨g, 0, none⟩) n cap) xs) (i : Int) (h0 : 0 ≤ i) (h1 : i < n) (j : Nat) (u : Value) (hu : (cells43 (rd_T43 xs i))[j]? = some u) :
    W.cell? ⟨g, i.toNat * 8 + j, none⟩ = some u ∧ W.frozen? ⟨g, i.toNat * 8 + j, none⟩ = false := by
  obtain ⟨c, hcl, hM, hcc, hfr⟩ := Kd.R_elem h z43 i h0 h1
  obtain rfl := k43_openM hM
  exact ⟨hcc j u hu, hfr j⟩
def closeF (s : Ln) (id : Int) : Int × Ln :=
  if existsB s id = false then (7, s)
  else if closedB s id = true then (28, s)
  else (0, ⟨s.D, s.V.set id.toNat ⟨(rd_T43 s.V id).f0, (rd_T43 s.V id).f1, (rd_T43 s.V id).f2, (rd_T43 s.V id).f3, (rd_T43 s.V id).f4, (rd_T43 s.V id).f5, (rd_T43 s.V id).f6, true⟩⟩)
theorem LS.slot {base g b n : Nat} {s : Ln} {W : World} (h : LS base g b n s W) (hV : 0 < s.V.length) : ∃ gv c, W.cell? ⟨g, 0, none⟩ = some (.map (some b)) ∧ W.cell? ⟨g, 1, none⟩ = some (.slice (some ⟨gv, 0, none⟩) s.V.length c) ∧ W.frozen? ⟨g, 1, none⟩ = false ∧ s.V.length ≤ c ∧ Kd.R k43 43 W base (fun k => k ≠ g) (.slice (some ⟨gv, 0, none⟩) s.V.length c) s.V ∧ base ≤ gv ∧ gv ≠ g ∧ gv ≠ b := by
  obtain ⟨h1, h2, ⟨v, h3, h4⟩, es, clock, h5, h6⟩ := h
  obtain ⟨gv, c, rfl, hb, hok, cells, hcl⟩ := Kd.R_form h4 hV
  refine ⟨gv, c, blk_cell h3 0, blk_cell h3 1, blk_frozen h3 1, (Kd.R_reads' h4).2.1, h4, hb, ?_, ?_⟩
  · rintro rfl
    rw [h3] at hcl
    injection hcl with hcl
    injection hcl with _ hcl
    exact absurd hcl (by decide)
  · rintro rfl
    rw [h5] at hcl
    cases hcl
theorem LS.setV {base g b n gv c m : Nat} {s : Ln} {V : List S43} {W W1 : World} (h : LS base g b n s W) (h0 : W.cell? ⟨g, 1, none⟩ = some (.slice (some ⟨gv, 0, none⟩) m c)) (hR : Kd.R k43 43 W1 base (fun k => k ≠ g) (.slice (some ⟨gv, 0, none⟩) m c) V) (hg : W.grownBy W1 (some gv)) (n1 : gv ≠ g) (n2 : gv ≠ b) : LS base g b n ⟨s.D, V⟩ W1 := by
  obtain ⟨h1, h2, ⟨v, h3, h4⟩, h5⟩ := h
  have e : v = .slice (some ⟨gv, 0, none⟩) m c := by
    have := blk_cell h3 1
    rw [h0] at this
    exact (Option.some.inj this).symm
  subst e
  exact ⟨h1, h2, ⟨_, blk_grown h3 hg (fun e => n1 (Option.some.inj e).symm), hR⟩, h5.kept hg (fun e => n2 (Option.some.inj e).symm)⟩
set_option maxHeartbeats 4000000 in
set_option maxRecDepth 100000 in
theorem close_calls (base g b n : Nat) (s : Ln) (id : Int) (w : World) (hs0 : LS base g b n s w) (hbase : base ≤ w.heap.size) :
    Calls Try.prog 28 #[.pointer (some ⟨g, 0, none⟩), .int .i64 id] w fun e w' => e = .returned (.int .i64 (closeF s id).1) ∧ LS base g b n (closeF s id).2 w' ∧ Below base w w' ∧ KeepO g b w w' := by
  have HS := Aside0.mk hs0
  clear hs0
  cases hx : existsB s id with
  | false =>
    have hf : closeF s id = (7, s) := by unfold closeF; rw [if_pos hx]
    have HF := Aside0.mk hf
    clear hf
    go_enter Try.func28, Try.ntmps28
    go_wp2_with (first
      | (go_at_call 41; (with_reducible refine (exists_calls base g b n s id _ HS.out).mono ?_); rintro e w3 ⟨rfl, rfl⟩)
      | fail)
    go_ret
    rw [HF.out]
    exact ⟨rfl, HS.out, Below.refl _ _, KeepO.refl _ _ _⟩
  | true =>
    have hx2 : 0 ≤ id ∧ id < s.V.length := by
      unfold existsB at hx
      simpa using hx
    have i0 := hx2.1
    have i1 := hx2.2
    obtain ⟨gv, c, c0, c1, z1, hc, hR, hgb, n1, n2⟩ := HS.out.slot (by omega)
    have HR := Aside0.mk hR
    have HC1 := Aside0.mk c1
    obtain ⟨q, fz⟩ := cell43 hR id i0 i1 7 _ rfl
    clear hR hx2
    cases hcl : closedB s id with
    | true =>
      have hcv : (rd_T43 s.V id).f7 = true := hcl
      rw [hcv] at q
      have hf : closeF s id = (28, s) := by unfold closeF; rw [if_neg (by rw [hx]; decide), if_pos hcl]
      have HF := Aside0.mk hf
      clear hf
      go_enter Try.func28, Try.ntmps28
      go_wp2_with (first
        | (go_at_call 41; (with_reducible refine (exists_calls base g b n s id _ HS.out).mono ?_); rintro e w3 ⟨rfl, rfl⟩; rw [hx])
        | fail)
      go_ret
      rw [HF.out]
      exact ⟨rfl, HS.out, Below.refl _ _, KeepO.refl _ _ _⟩
    | false =>
      have hcv : (rd_T43 s.V id).f7 = false := hcl
      rw [hcv] at q
      have hf : closeF s id = (0, ⟨s.D, s.V.set id.toNat ⟨(rd_T43 s.V id).f0, (rd_T43 s.V id).f1, (rd_T43 s.V id).f2, (rd_T43 s.V id).f3, (rd_T43 s.V id).f4, (rd_T43 s.V id).f5, (rd_T43 s.V id).f6, true⟩⟩) := by unfold closeF; rw [if_neg (by rw [hx]; decide), if_neg (by rw [hcl]; decide)]
      have HF := Aside0.mk hf
      clear hf
      have HP := Aside0.mk (put43 HR.out id i0 i1 7 (by decide) (.bool true) ⟨(rd_T43 s.V id).f0, (rd_T43 s.V id).f1, (rd_T43 s.V id).f2, (rd_T43 s.V id).f3, (rd_T43 s.V id).f4, (rd_T43 s.V id).f5, (rd_T43 s.V id).f6, true⟩ rfl)
      go_enter Try.func28, Try.ntmps28
      go_wp2_with (first
        | (go_at_call 41; (with_reducible refine (exists_calls base g b n s id _ HS.out).mono ?_); rintro e w3 ⟨rfl, rfl⟩; rw [hx])
        | fail)
      go_ret
      rw [HF.out]
      exact ⟨rfl, HS.out.setV HC1.out HP.out.1 HP.out.2 n1 n2, (Below.refl base w).grown HP.out.2 hbase (fun k hk => by have := Option.some.inj hk; omega), (KeepO.refl g b w).grown HP.out.2 HS.out.lt (fun e => n1 (Option.some.inj e).symm) (.inr (.inl (by unfold vown; rw [HC1.out]; rfl)))⟩
end Go.Proofs.Ytcbkcgnigncahaa.P
