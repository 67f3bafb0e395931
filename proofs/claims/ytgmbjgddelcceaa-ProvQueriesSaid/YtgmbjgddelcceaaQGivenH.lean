import Derived.Test.YtgmbjgddelcceaaQPlainE
import Derived.Test.YtgmbjgddelcceaaQPx18
namespace Go.Proofs.Ytgmbjgddelcceaa.P
open Go.RowKit Go.Proofs.YtgmbjgddelcceaaW.PrintWords Go.Proofs.YtgmbjgddelcceaaW.PrintLast Go.Proofs.YtgmbjgddelcceaaW.PrintMore
attribute [local go_sem] max2_int min2_int max_two min_two max_three min_three max_four min_four
attribute [local go_sem high] eqA71
set_option linter.unusedVariables false
set_option linter.unusedSimpArgs false
theorem sources_c (l : List Int) (s : List S71) (hs : Ev (fun k => skymosaicref36_Sources.f k l) s) (A : Option Addr) (c : Nat) (w : World) (hr : Kd.C (Kd.int .i64) w A l.length l) (hc : l.length ≤ c) :
    Calls Try.prog 9 #[.slice A l.length c] w fun e w' => ∃ A' c', e = .returned (.slice A' s.length c') ∧ s.length ≤ c' ∧ Kd.C k71 w' A' s.length s ∧ Below w.heap.size w w' := by
  obtain ⟨k, hk⟩ := hs.rounds
  refine (skymosaicref36_Sources.calls k A c l s w hr hc hk).mono ?_
  rintro e w' ⟨v, rfl, h1, h2⟩
  obtain ⟨A', c', rfl⟩ := Kd.R_slice h1
  obtain ⟨-, h3, h4⟩ := Kd.R_reads' h1
  exact ⟨A', c', rfl, h3, h4, h2⟩
theorem refpack_c (s : List S71) (hs : (packF s).2 = 0) (Xs : List S74) (hX : (packF s).1.map conv = Xs) (A : Option Addr) (c : Nat) (w : World) (hr : Kd.C k71 w A s.length s) (hc : s.length ≤ c) :
    Calls Try.prog 12 #[.slice A s.length c] w fun e w' => ∃ A' c', e = .returned (.tuple #[.slice A' Xs.length c', .int .i64 0]) ∧ Xs.length ≤ c' ∧ Kd.C k74 w' A' Xs.length Xs ∧ Below w.heap.size w w' := by
  subst hX
  obtain ⟨k, hk⟩ := (ref_pack s).rounds
  refine (skymosaicref36_Pack.calls k A c s _ _ w hr hc hk).mono ?_
  rintro e w' ⟨v, rfl, h1, h2⟩
  obtain ⟨A', c', rfl⟩ := Kd.R_slice h1
  obtain ⟨-, h3, h4⟩ := Kd.R_reads' h1
  exact ⟨A', c', by rw [hs], h3, h4, h2⟩
theorem own_c (P : List S80) (hP : P.length ≤ 1000000) (Xs : List S74) (hX : P.map conv = Xs) (A : Option Addr) (c : Nat) (w : World) (hr : Kd.C k74 w A Xs.length Xs) (hc : Xs.length ≤ c) :
    Calls Try.prog 20 #[.slice A Xs.length c] w fun e w' => ∃ A' c', e = .returned (.slice A' P.length c') ∧ P.length ≤ c' ∧ Kd.C k80 w' A' P.length P ∧ Below w.heap.size w w' := by
  subst hX
  obtain ⟨k, hk⟩ := (own_ends (P.map conv) (by simpa using hP)).rounds
  rw [own_back] at hk
  refine (skymosaiclaw36_own.calls k A c _ _ w hr hc hk).mono ?_
  rintro e w' ⟨v, rfl, h1, h2⟩
  obtain ⟨A', c', rfl⟩ := Kd.R_slice h1
  obtain ⟨-, h3, h4⟩ := Kd.R_reads' h1
  exact ⟨A', c', rfl, h3, h4, h2⟩
theorem query_c (P : List S80) (x y wd h : Int) (q : List S71) (e0 : Int) (hq : queryF P x y wd h = (q, e0)) (A : Option Addr) (c : Nat) (w : World) (hr : Kd.C k80 w A P.length P) (hc : P.length ≤ c) :
    Calls Try.prog 19 #[.slice A P.length c, .agg #[.int .i64 x, .int .i64 y, .int .i64 wd, .int .i64 h]] w fun e w' => ∃ A' c', e = .returned (.tuple #[.slice A' q.length c', .int .i64 e0]) ∧ Kd.R k71 71 w' w.heap.size (fun _ => True) (.slice A' q.length c') q ∧ Below w.heap.size w w' := by
  refine (query_calls A c P x y wd h w hr hc).mono ?_
  rw [hq]
  rintro e w' ⟨v, rfl, h1, h2⟩
  obtain ⟨A', c', rfl⟩ := Kd.R_slice h1
  exact ⟨A', c', rfl, h1, h2⟩
theorem refquery_c (P : List S80) (hP : P.length ≤ 1000000) (x y wd h : Int) (q : List S71) (e0 : Int) (hq : queryF P x y wd h = (q, e0)) (Xs : List S74) (hX : P.map conv = Xs) (A : Option Addr) (c : Nat) (w : World) (hr : Kd.C k74 w A Xs.length Xs) (hc : Xs.length ≤ c) :
    Calls Try.prog 21 #[.slice A Xs.length c, .agg #[.int .i64 x, .int .i64 y, .int .i64 wd, .int .i64 h]] w fun e w' => ∃ A' c', e = .returned (.tuple #[.slice A' q.length c', .int .i64 e0]) ∧ Kd.R k71 71 w' w.heap.size (fun _ => True) (.slice A' q.length c') q ∧ Below w.heap.size w w' := by
  subst hX
  obtain ⟨k, hk⟩ := (ref_query P hP x y wd h).rounds
  rw [hq] at hk
  refine (skymosaicref36_Query.calls k A c _ x y wd h q e0 w hr hc hk).mono ?_
  rintro e w' ⟨v, rfl, h1, h2⟩
  obtain ⟨A', c', rfl⟩ := Kd.R_slice h1
  exact ⟨A', c', rfl, h1, h2⟩
theorem same_c (q : List S71) (hq : q.length ≤ 1000000) (A : Option Addr) (c : Nat) (B : Option Addr) (d : Nat) (w : World) (hr0 : Kd.C k71 w A q.length q) (hc0 : q.length ≤ c) (hr1 : Kd.C k71 w B q.length q) (hc1 : q.length ≤ d) :
    Calls Try.prog 16 #[.slice A q.length c, .slice B q.length d] w fun e w' => e = .returned (.bool true) ∧ Drawn0 w w' := by
  obtain ⟨k, hk⟩ := (same71_ends q hq).rounds
  exact skymosaiclaw36_same.calls k A c q B d q true w hr0 hc0 hr1 hc1 hk
theorem around_c (n m r : Int) (h : skymosaicref01_Around.f n m = some r) (w : World) : Calls Try.prog 18 #[.int .i64 n, .int .i64 m] w fun e w' => e = .returned (.int .i64 r) ∧ Drawn0 w w' := skymosaicref01_Around.calls n m r w h
theorem drawn_below {B : Nat} {u W W' : World} (hd : Drawn0 W W') (h : Below B u W) : Below B u W' := by
  obtain ⟨n, rfl⟩ := hd
  exact pw_below_drewN h n
theorem drawn_blk {W W' : World} {g : Nat} {o : Obj} (hd : Drawn0 W W') (h : W.heap[g]? = some o) : W'.heap[g]? = some o := by
  obtain ⟨n, rfl⟩ := hd
  exact blk_drewN h n
theorem C42_of {w : World} {g : Nat} {p q r : S42} (h : w.heap[g]? = some (.cells #[.int .i64 p.f0, .int .i64 p.f1, .int .i64 p.f2, .int .i64 p.f3, .int .i64 q.f0, .int .i64 q.f1, .int .i64 q.f2, .int .i64 q.f3, .int .i64 r.f0, .int .i64 r.f1, .int .i64 r.f2, .int .i64 r.f3] 42 (0, 0))) : Kd.C k42 w (some ⟨g, 0, none⟩) 3 [p, q, r] := by
  refine ⟨rfl, by decide, fun _ => ⟨_, rfl, fun j u hj => ?_⟩⟩
  have hc : ∀ i, w.cell? ⟨g, i, none⟩ = _ := blk_cell h
  have one : ∀ (o : Nat) (u : S42), (#[.int .i64 p.f0, .int .i64 p.f1, .int .i64 p.f2, .int .i64 p.f3, .int .i64 q.f0, .int .i64 q.f1, .int .i64 q.f2, .int .i64 q.f3, .int .i64 r.f0, .int .i64 r.f1, .int .i64 r.f2, .int .i64 r.f3] : Array Value)[o + 0]? = some (.int .i64 u.f0) → (#[.int .i64 p.f0, .int .i64 p.f1, .int .i64 p.f2, .int .i64 p.f3, .int .i64 q.f0, .int .i64 q.f1, .int .i64 q.f2, .int .i64 q.f3, .int .i64 r.f0, .int .i64 r.f1, .int .i64 r.f2, .int .i64 r.f3] : Array Value)[o + 1]? = some (.int .i64 u.f1) → (#[.int .i64 p.f0, .int .i64 p.f1, .int .i64 p.f2, .int .i64 p.f3, .int .i64 q.f0, .int .i64 q.f1, .int .i64 q.f2, .int .i64 q.f3, .int .i64 r.f0, .int .i64 r.f1, .int .i64 r.f2, .int .i64 r.f3] : Array Value)[o + 2]? = some (.int .i64 u.f2) → (#[.int .i64 p.f0, .int .i64 p.f1, .int .i64 p.f2, .int .i64 p.f3, .int .i64 q.f0, .int .i64 q.f1, .int .i64 q.f2, .int .i64 q.f3, .int .i64 r.f0, .int .i64 r.f1, .int .i64 r.f2, .int .i64 r.f3] : Array Value)[o + 3]? = some (.int .i64 u.f3) →
      ∃ c : List Value, c.length = k42.sz ∧ k42.K w u c ∧ ∀ i v, c[i]? = some v → w.cell? (Addr.add ⟨g, 0, none⟩ (o + i)) = some v := by
    intro o u h0 h1 h2 h3
    refine ⟨[.int .i64 u.f0, .int .i64 u.f1, .int .i64 u.f2, .int .i64 u.f3], rfl, k42_mk w u, ?_⟩
    intro i v hi
    have e : Addr.add ⟨g, 0, none⟩ (o + i) = ⟨g, o + i, none⟩ := by simp [Addr.add]; intro h1 h2; omega
    rw [e, hc]
    match i, hi with
    | 0, hi => cases hi; exact h0
    | 1, hi => cases hi; exact h1
    | 2, hi => cases hi; exact h2
    | 3, hi => cases hi; exact h3
    | n + 4, hi => cases hi
  match j, hj with
  | 0, hj => cases hj; exact one 0 _ rfl rfl rfl rfl
  | 1, hj => cases hj; exact one 4 _ rfl rfl rfl rfl
  | 2, hj => cases hj; exact one 8 _ rfl rfl rfl rfl
  | n + 3, hj => cases hj
theorem winOf_le (xs : List S71) (fr wd : Int) : (winOf xs fr wd).length ≤ xs.length := by
  unfold winOf
  rw [List.length_drop, List.length_take]; omega
theorem rowsQ_len (all : List S71) (x y wd : Int) : ∀ (k : Nat) (r : Int), (rowsQ all x y wd k r).length ≤ k * all.length
  | 0, r => by simp [rowsQ]
  | k + 1, r => by
    have h1 := rowsQ_len all x y wd k (r + 1)
    have h2 := winOf_le all ((y + r) * 16 + x) wd
    simp only [rowsQ, List.length_append]
    rw [Nat.succ_mul]; omega
theorem queryF_len (P : List S80) (x y wd h : Int) : (queryF P x y wd h).1.length ≤ 1000000 := by
  unfold queryF
  by_cases he : (unpackF P).2 = 0
  · rw [if_pos he]
    split
    · rename_i hin
      have hl := unpackF_len P he
      have h1 := rowsQ_len (unpackF P).1 x y wd h.toNat 0
      have h2 : inQ y h = true := by simp only [Bool.and_eq_true] at hin; exact hin.2
      unfold inQ at h2
      simp only [Bool.and_eq_true, decide_eq_true_eq] at h2
      have h3 : h.toNat ≤ 16 := by omega
      have h4 : h.toNat * (unpackF P).1.length ≤ 16 * 256 := Nat.mul_le_mul h3 (by omega)
      show (rowsQ _ _ _ _ _ _).length ≤ _
      omega
    · simp
  · rw [if_neg he]; simp
set_option maxHeartbeats 4000000 in
set_option maxRecDepth 100000 in
theorem law4 (l : List Int) (s : List S71) (hs : Ev (fun k => skymosaicref36_Sources.f k l) s) (hp : (packF s).2 = 0) (P : List S80) (hPl : P.length ≤ 1000000) (Xs : List S74) (hX1 : (packF s).1.map conv = Xs) (hX2 : P.map conv = Xs)
    (x y wd h n cut X Y W H K : Int) (hX : skymosaicref01_Around.f n 17 = some X) (hY : skymosaicref01_Around.f (wrap64 (Int.tdiv n 17)) 17 = some Y) (hW : skymosaicref01_Around.f (wrap64 (Int.tdiv n 289)) (17 - X) = some W) (hH : skymosaicref01_Around.f (wrap64 (Int.tdiv n 4913)) (17 - Y) = some H) (hK : skymosaicref01_Around.f cut (H + 1) = some K)
    (hX0 : 0 ≤ X ∧ X < 17) (hY0 : 0 ≤ Y ∧ Y < 17) (hW0 : 0 ≤ W ∧ W < 17 - X) (hH0 : 0 ≤ H ∧ H < 17 - Y) (hK0 : 0 ≤ K ∧ K < H + 1)
    (q1 q2 q3 : List S71) (hq1 : queryF P X Y W K = (q1, 0)) (hq2 : queryF P X (Y + K) W (H - K) = (q2, 0)) (hq3 : queryF P X Y W H = (q3, 0)) (hq : q1 ++ q2 = q3) (hqn : queryF [] X Y W H = ([], 2)) (kl : Nat) (hlv : skymosaiclaw36_lives.f kl = some true)
    (A : Option Addr) (c : Nat) (w : World) (hr : Kd.C (Kd.int .i64) w A l.length l) (hc : l.length ≤ c) :
    Calls Try.prog 4 #[.slice A l.length c, .agg #[.int .i64 x, .int .i64 y, .int .i64 wd, .int .i64 h], .int .i64 n, .int .i64 cut] w fun e w' => e = .returned (.bool true) ∧ Below w.heap.size w w' := by
  have hu42 := Try.underlying42
  have hu71 := Try.underlying71
  have HR := Aside0.mk hr
  have HS := Aside0.mk hs
  have HP0 := Aside0.mk hp
  have HX1 := Aside0.mk hX1
  have HX2 := Aside0.mk hX2
  have HQ1 := Aside0.mk hq1
  have HQ2 := Aside0.mk hq2
  have HQ3 := Aside0.mk hq3
  have HQE := Aside0.mk hq
  have HQN := Aside0.mk hqn
  have HLV := Aside0.mk hlv
  have HL1 := Aside0.mk (queryF_len P X Y W K)
  have HL2 := Aside0.mk (queryF_len P X (Y + K) W (H - K))
  have HL3 := Aside0.mk (queryF_len P X Y W H)
  rw [hq1] at HL1
  rw [hq2] at HL2
  rw [hq3] at HL3
  clear hr hs hp hX1 hX2 hq1 hq2 hq3 hq hqn hlv
  go_enter Try.func4, Try.ntmps4
  go_upto_region 1 with fail
  go_cut [9] (fun s9 wx => ∃ A2 c2, s9 = .slice A2 Xs.length c2 ∧ Aside0 (Xs.length ≤ c2 ∧ Kd.C k74 wx A2 Xs.length Xs ∧ wx.heap[w.heap.size]? = some (.cells #[.int .i64 x, .int .i64 y, .int .i64 wd, .int .i64 h] 42 (0, 0)) ∧ Below w.heap.size w wx))
  case first =>
    go_wp2_with (first | (go_at_call 9; refine (sources_c l s HS.out A c _ (Kd.C_alloc HR.out _) hc).mono ?_; rintro e w1 ⟨A1, c1, rfl, hc1, hC1, hb1⟩) | (go_at_call 12; refine (refpack_c s HP0.out Xs HX1.out A1 c1 _ hC1 hc1).mono ?_; rintro e w2 ⟨A2, c2, rfl, hc2, hC2, hb2⟩))
    go_meet
    exact ⟨_, _, rfl, ⟨hc2, hC2, blk_below (blk_below (blk_new _ _) hb1) hb2, below_step (below_step (below_alloc (Below.refl _ _) _) hb1) hb2⟩⟩
  case rest =>
    obtain ⟨A2, c2, rfl, HCC⟩ := hcut
    obtain ⟨w2, rfl⟩ : ∃ w2 : World, w2 = wc := ⟨_, rfl⟩
    go_upto_region 2 with fail
    go_cut [11] (fun s11 wx => ∃ g, s11 = .pointer (some ⟨g, 0, none⟩) ∧ Aside0 (wx.heap[g]? = some (.cells #[.int .i64 X, .int .i64 Y, .int .i64 0, .int .i64 0] 42 (0, 0)) ∧ w2.heap.size ≤ g ∧ Below w2.heap.size w2 wx))
    case first =>
      go_wp2_with (first | (go_at_call 18; (with_reducible refine (around_c n 17 X hX _).mono ?_); rintro e w3 ⟨rfl, hd3⟩) | (go_at_call 18; (with_reducible refine (around_c (wrap64 (Int.tdiv n 17)) 17 Y hY _).mono ?_); rintro e w4 ⟨rfl, hd4⟩))
      go_meet
      exact ⟨_, rfl, ⟨blk_new _ _, (drawn_below hd4 (drawn_below hd3 (Below.refl w2.heap.size w2))).size, below_alloc (drawn_below hd4 (drawn_below hd3 (Below.refl _ _))) _⟩⟩
    case rest =>
      obtain ⟨g, rfl, HG⟩ := hcut
      obtain ⟨w3, rfl⟩ : ∃ w3 : World, w3 = wc := ⟨_, rfl⟩
      have p0 : w3.cell? ⟨g, 0, none⟩ = some (.int .i64 X) := blk_cell HG.out.1 0
      go_upto_region 3 with fail
      go_cut [] (fun wx => Aside0 (wx.heap[g]? = some (.cells #[.int .i64 X, .int .i64 Y, .int .i64 W, .int .i64 0] 42 (0, 0)) ∧ w2.heap.size ≤ g ∧ Below w2.heap.size w2 wx))
      case first =>
        go_wp2_with (go_at_call 18; (with_reducible refine (around_c (wrap64 (Int.tdiv n 289)) (17 - X) W hW _).mono ?_); rintro e w4 ⟨rfl, hd4⟩; have HG4 := drawn_blk hd4 HG.out.1; have q2 : w4.cell? ⟨g, 2, none⟩ = some (.int .i64 0) := blk_cell HG4 2; have f2 := blk_frozen HG4 2)
        go_meet
        exact ⟨blk_set HG4 2 _, HG.out.2.1, below_set (drawn_below hd4 HG.out.2.2) HG.out.2.1⟩
      case rest =>
        obtain ⟨w4, rfl⟩ : ∃ w4 : World, w4 = wc := ⟨_, rfl⟩
        have HG4 := hcut
        clear p0
        have p1 : w4.cell? ⟨g, 1, none⟩ = some (.int .i64 Y) := blk_cell HG4.out.1 1
        go_upto_region 4 with fail
        go_cut [] (fun wx => Aside0 (wx.heap[g]? = some (.cells #[.int .i64 X, .int .i64 Y, .int .i64 W, .int .i64 H] 42 (0, 0)) ∧ w2.heap.size ≤ g ∧ Below w2.heap.size w2 wx))
        case first =>
          go_wp2_with (go_at_call 18; (with_reducible refine (around_c (wrap64 (Int.tdiv n 4913)) (17 - Y) H hH _).mono ?_); rintro e w5 ⟨rfl, hd5⟩; have HG5 := drawn_blk hd5 HG4.out.1; have q3 : w5.cell? ⟨g, 3, none⟩ = some (.int .i64 0) := blk_cell HG5 3; have f3 := blk_frozen HG5 3)
          go_meet
          exact ⟨blk_set HG5 3 _, HG4.out.2.1, below_set (drawn_below hd5 HG4.out.2.2) HG4.out.2.1⟩
        case rest =>
          obtain ⟨w5, rfl⟩ : ∃ w5 : World, w5 = wc := ⟨_, rfl⟩
          have HG5 := hcut
          clear p1
          have HB5 := Aside0.mk (below_step HCC.out.2.2.2 HG5.out.2.2)
          have HC5 := Aside0.mk (Kd.C_below HCC.out.2.1 HG5.out.2.2)
          have HX5 := Aside0.mk (blk_below HCC.out.2.2.1 HG5.out.2.2)
          have hcc2 := HCC.out.1
          have b0 : w5.cell? ⟨w.heap.size, 0, none⟩ = some (.int .i64 x) := blk_cell HX5.out 0
          have b1 : w5.cell? ⟨w.heap.size, 1, none⟩ = some (.int .i64 y) := blk_cell HX5.out 1
          have b2 : w5.cell? ⟨w.heap.size, 2, none⟩ = some (.int .i64 wd) := blk_cell HX5.out 2
          have b3 : w5.cell? ⟨w.heap.size, 3, none⟩ = some (.int .i64 h) := blk_cell HX5.out 3
          have g0 : w5.cell? ⟨g, 0, none⟩ = some (.int .i64 X) := blk_cell HG5.out.1 0
          have g1 : w5.cell? ⟨g, 1, none⟩ = some (.int .i64 Y) := blk_cell HG5.out.1 1
          have g2 : w5.cell? ⟨g, 2, none⟩ = some (.int .i64 W) := blk_cell HG5.out.1 2
          have g3 : w5.cell? ⟨g, 3, none⟩ = some (.int .i64 H) := blk_cell HG5.out.1 3
          go_upto_region 5 with fail
          go_cut [12] (fun s12 wx => ∃ ad, s12 = .slice (some ad) 3 3 ∧ Aside0 (Kd.C k42 wx (some ad) 3 [⟨x, y, wd, h⟩, ⟨X, Y, W, H⟩, ⟨0, 0, 16, 16⟩] ∧ Below w5.heap.size w5 wx))
          case first =>
            go_wp2
            go_meet
            exact ⟨_, rfl, ⟨C42_of (p := ⟨x, y, wd, h⟩) (q := ⟨X, Y, W, H⟩) (r := ⟨0, 0, 16, 16⟩) (blk_new _ _), below_alloc (Below.refl _ _) _⟩⟩
          case rest =>
            obtain ⟨ad, rfl, HT⟩ := hcut
            obtain ⟨wins, hwins⟩ : ∃ ws : List S42, ws = [⟨x, y, wd, h⟩, ⟨X, Y, W, H⟩, ⟨0, 0, 16, 16⟩] := ⟨_, rfl⟩
            rw [← hwins] at HT
            clear hwins
            obtain ⟨w6, rfl⟩ : ∃ w6 : World, w6 = wc := ⟨_, rfl⟩
            clear b0 b1 b2 b3 g0 g1 g2 g3
            have HB6 := Aside0.mk (below_step HB5.out HT.out.2)
            have HC6 := Aside0.mk (Kd.C_below HC5.out HT.out.2)
            have HG6 := Aside0.mk (blk_below HG5.out.1 HT.out.2)
            have HT6 := Aside0.mk HT.out.1
            clear HT HX5 HC5 HB5 HCC HG HG4 HG5
            go_upto_region 6 with fail
            go_wp2
            go_loopw [13] (fun v13 wr => ∃ i : Int, v13 = .int .i64 i ∧ Aside0 (0 ≤ i ∧ i ≤ 3) ∧ Aside0 (Below w6.heap.size w6 wr)) (fun v _ => 3 - (intOf v).toNat)
            case atStart => exact ⟨0, rfl, ⟨by omega, by omega⟩, ⟨Below.refl _ _⟩⟩
            case round =>
              obtain ⟨i, rfl, HI, HB⟩ := hrel
              have h0 := HI.out.1
              by_cases hlt : i < 3
              · obtain ⟨wo, rfl⟩ : ∃ wo : World, wo = wr := ⟨_, rfl⟩
                obtain ⟨ad', e, t0, t1, t2, t3⟩ := at_T42 (Kd.C_below HT6.out HB.out) i h0 hlt
                cases e
                obtain ⟨q, e0, hq⟩ : ∃ q e0, queryF P (rd_T42 wins i).f0 (rd_T42 wins i).f1 (rd_T42 wins i).f2 (rd_T42 wins i).f3 = (q, e0) := ⟨_, _, rfl⟩
                have HQ := Aside0.mk hq
                clear hq
                go_upto_region 9 with fail
                have HCo := Aside0.mk (Kd.C_drew (Kd.C_below HC6.out HB.out))
                go_cut [14, 15] (fun s14 s15 wx => ∃ B d, s14 = .slice B q.length d ∧ s15 = .int .i64 e0 ∧ Aside0 (Kd.R k71 71 wx wo.heap.size (fun _ => True) (.slice B q.length d) q ∧ Below wo.heap.size wo wx))
                case first =>
                  go_region_held3 (fun w' => w'.cell? (ad.add (i.toNat * 4)) = some (.int .i64 (rd_T42 wins i).f0) ∧ w'.cell? ⟨(ad.add (i.toNat * 4)).block, (ad.add (i.toNat * 4)).off + 1, none⟩ = some (.int .i64 (rd_T42 wins i).f1) ∧ w'.cell? ⟨(ad.add (i.toNat * 4)).block, (ad.add (i.toNat * 4)).off + 2, none⟩ = some (.int .i64 (rd_T42 wins i).f2) ∧ w'.cell? ⟨(ad.add (i.toNat * 4)).block, (ad.add (i.toNat * 4)).off + 3, none⟩ = some (.int .i64 (rd_T42 wins i).f3))
                    (first | exact ⟨t0, t1, t2, t3⟩ | exact ⟨k0, k1, k2, k3⟩ | exact ⟨m0, m1, m2, m3⟩)
                    (first | (go_at_call 20; refine (own_c P hPl Xs HX2.out A2 c2 _ HCo.out hcc2).mono ?_; rintro e w7 ⟨A7, c7, rfl, hc7, hC7, hb7⟩; have k0 := pw_cell_below hb7 t0; have k1 := pw_cell_below hb7 t1; have k2 := pw_cell_below hb7 t2; have k3 := pw_cell_below hb7 t3) | (go_at_call 19; refine (query_c P _ _ _ _ q e0 HQ.out A7 c7 _ hC7 hc7).mono ?_; rintro e w8 ⟨B, d, rfl, hR8, hb8⟩; have m0 := pw_cell_below hb8 k0; have m1 := pw_cell_below hb8 k1; have m2 := pw_cell_below hb8 k2; have m3 := pw_cell_below hb8 k3))
                  all_goals go_wp2
                  all_goals go_meet
                  all_goals exact ⟨_, _, rfl, rfl, ⟨Kd.R_lower hR8 hb7.size, below_step (below_step (below_drew1 (Below.refl _ _)) hb7) hb8⟩⟩
                case rest =>
                  obtain ⟨B, d, rfl, rfl, HQ8⟩ := hcut
                  obtain ⟨w8, rfl⟩ : ∃ w8 : World, w8 = wc := ⟨_, rfl⟩
                  clear t0 t1 t2 t3
                  have HB8 := Aside0.mk (below_step HB.out HQ8.out.2)
                  obtain ⟨ad', e, t0, t1, t2, t3⟩ := at_T42 (Kd.C_below HT6.out HB8.out) i h0 hlt
                  cases e
                  have HC8 := Aside0.mk (Kd.C_below HC6.out HB8.out)
                  obtain ⟨-, hd8, hCq⟩ := Kd.R_reads' HQ8.out.1
                  have HCq := Aside0.mk hCq
                  have hql : q.length ≤ 1000000 := by
                    have := queryF_len P (rd_T42 wins i).f0 (rd_T42 wins i).f1 (rd_T42 wins i).f2 (rd_T42 wins i).f3
                    rw [HQ.out] at this
                    exact this
                  clear hCq
                  have hne : (e0 != e0) = false := by simp
                  go_wp2_with (first | (go_at_call 21; refine (refquery_c P hPl _ _ _ _ q e0 HQ.out Xs HX2.out A2 c2 _ HC8.out hcc2).mono ?_; rintro e w9 ⟨B9, d9, rfl, hR9, hb9⟩) | (go_at_call 16; refine (same_c q hql B d B9 d9 _ (Kd.C_below HCq.out hb9) hd8 (Kd.R_reads' hR9).2.2 (Kd.R_reads' hR9).2.1).mono ?_; rintro e w10 ⟨rfl, hd10⟩))
                  go_roundw
                  case rel => exact ⟨i + 1, rfl, ⟨by omega, by omega⟩, ⟨drawn_below hd10 (below_step HB8.out hb9)⟩⟩
                  case measure => simp [intOf]; omega
              · have HG7 := Aside0.mk (blk_below HG6.out HB.out)
                have HC7 := Aside0.mk (Kd.C_below HC6.out HB.out)
                have HB7 := Aside0.mk (below_step HB6.out HB.out)
                obtain ⟨w7, rfl⟩ : ∃ w7 : World, w7 = wr := ⟨_, rfl⟩
                clear HT6 HC6 HG6 HB6 HB HI
                have p3 : w7.cell? ⟨g, 3, none⟩ = some (.int .i64 H) := blk_cell HG7.out 3
                go_upto_region 13 with fail
                go_cut [18] (fun s18 wx => s18 = .int .i64 K ∧ Aside0 (Below w7.heap.size w7 wx))
                case first =>
                  go_wp2_with (first | (go_at_call 18; (with_reducible refine (around_c cut (H + 1) K hK _).mono ?_); rintro e w8 ⟨rfl, hd8⟩))
                  go_meet
                  exact ⟨rfl, ⟨drawn_below hd8 (Below.refl _ _)⟩⟩
                case rest =>
                  obtain ⟨rfl, HW8⟩ := hcut
                  obtain ⟨w8, rfl⟩ : ∃ w8 : World, w8 = wc := ⟨_, rfl⟩
                  clear p3
                  have HG8 := Aside0.mk (blk_below HG7.out HW8.out)
                  have HC8 := Aside0.mk (Kd.C_drew (Kd.C_below HC7.out HW8.out))
                  have HB8 := Aside0.mk (below_step HB7.out HW8.out)
                  clear HG7 HC7 HB7 HW8
                  have t0 : w8.cell? ⟨g, 0, none⟩ = some (.int .i64 X) := blk_cell HG8.out 0
                  have t1 : w8.cell? ⟨g, 1, none⟩ = some (.int .i64 Y) := blk_cell HG8.out 1
                  have t2 : w8.cell? ⟨g, 2, none⟩ = some (.int .i64 W) := blk_cell HG8.out 2
                  have t3 : w8.cell? ⟨g, 3, none⟩ = some (.int .i64 H) := blk_cell HG8.out 3
                  go_upto_region 14 with fail
                  go_cut [19, 20] (fun s19 s20 wx => ∃ B d, s19 = .slice B q1.length d ∧ s20 = .int .i64 0 ∧ Aside0 (Kd.R k71 71 wx w8.heap.size (fun _ => True) (.slice B q1.length d) q1 ∧ Below w8.heap.size w8 wx))
                  case first =>
                    go_region_held3 (fun w' => w'.cell? ⟨g, 0, none⟩ = some (.int .i64 X) ∧ w'.cell? ⟨g, 1, none⟩ = some (.int .i64 Y) ∧ w'.cell? ⟨g, 2, none⟩ = some (.int .i64 W) ∧ w'.cell? ⟨g, 3, none⟩ = some (.int .i64 H))
                      (first | exact ⟨t0, t1, t2, t3⟩ | exact ⟨k0, k1, k2, k3⟩ | exact ⟨m0, m1, m2, m3⟩)
                      (first | (go_at_call 20; refine (own_c P hPl Xs HX2.out A2 c2 _ HC8.out hcc2).mono ?_; rintro e x1 ⟨A7, c7, rfl, hc7, hC7, hb7⟩; have k0 := pw_cell_below hb7 t0; have k1 := pw_cell_below hb7 t1; have k2 := pw_cell_below hb7 t2; have k3 := pw_cell_below hb7 t3) | (go_at_call 19; refine (query_c P _ _ _ _ q1 0 HQ1.out A7 c7 _ hC7 hc7).mono ?_; rintro e x2 ⟨B, d, rfl, hR8, hb8⟩; have m0 := pw_cell_below hb8 k0; have m1 := pw_cell_below hb8 k1; have m2 := pw_cell_below hb8 k2; have m3 := pw_cell_below hb8 k3))
                    all_goals go_wp2
                    all_goals go_meet
                    all_goals exact ⟨_, _, rfl, rfl, ⟨Kd.R_lower hR8 hb7.size, below_step (below_step (below_drew1 (Below.refl _ _)) hb7) hb8⟩⟩
                  case rest =>
                    obtain ⟨B1, d1, rfl, rfl, HR1⟩ := hcut
                    obtain ⟨w9, rfl⟩ : ∃ w9 : World, w9 = wc := ⟨_, rfl⟩
                    clear t0 t1 t2 t3
                    have HG9 := Aside0.mk (blk_below HG8.out HR1.out.2)
                    have HC9 := Aside0.mk (Kd.C_drew (Kd.C_below (w := w8) HC8.out HR1.out.2))
                    have HB9 := Aside0.mk (below_step HB8.out HR1.out.2)
                    have t0 : w9.cell? ⟨g, 0, none⟩ = some (.int .i64 X) := blk_cell HG9.out 0
                    have t1 : w9.cell? ⟨g, 1, none⟩ = some (.int .i64 Y) := blk_cell HG9.out 1
                    have t2 : w9.cell? ⟨g, 2, none⟩ = some (.int .i64 W) := blk_cell HG9.out 2
                    have t3 : w9.cell? ⟨g, 3, none⟩ = some (.int .i64 H) := blk_cell HG9.out 3
                    have hs1 : IntKind.i64.wrap (Y + K) = Y + K := IntWalk.i64_in _ (by omega)
                    have hs2 : IntKind.i64.wrap (H - K) = H - K := IntWalk.i64_in _ (by omega)
                    go_upto_region 15 with fail
                    go_cut [21, 22] (fun s19 s20 wx => ∃ B d, s19 = .slice B q2.length d ∧ s20 = .int .i64 0 ∧ Aside0 (Kd.R k71 71 wx w9.heap.size (fun _ => True) (.slice B q2.length d) q2 ∧ Below w9.heap.size w9 wx))
                    case first =>
                      go_region_held3 (fun w' => w'.cell? ⟨g, 0, none⟩ = some (.int .i64 X) ∧ w'.cell? ⟨g, 1, none⟩ = some (.int .i64 Y) ∧ w'.cell? ⟨g, 2, none⟩ = some (.int .i64 W) ∧ w'.cell? ⟨g, 3, none⟩ = some (.int .i64 H))
                        (first | exact ⟨t0, t1, t2, t3⟩ | exact ⟨k0, k1, k2, k3⟩ | exact ⟨m0, m1, m2, m3⟩)
                        (first | (go_at_call 20; refine (own_c P hPl Xs HX2.out A2 c2 _ HC9.out hcc2).mono ?_; rintro e x1 ⟨A7, c7, rfl, hc7, hC7, hb7⟩; have k0 := pw_cell_below hb7 t0; have k1 := pw_cell_below hb7 t1; have k2 := pw_cell_below hb7 t2; have k3 := pw_cell_below hb7 t3) | (go_at_call 19; refine (query_c P _ _ _ _ q2 0 HQ2.out A7 c7 _ hC7 hc7).mono ?_; rintro e x2 ⟨B, d, rfl, hR8, hb8⟩; have m0 := pw_cell_below hb8 k0; have m1 := pw_cell_below hb8 k1; have m2 := pw_cell_below hb8 k2; have m3 := pw_cell_below hb8 k3))
                      all_goals go_wp2
                      all_goals go_meet
                      all_goals exact ⟨_, _, rfl, rfl, ⟨Kd.R_lower hR8 hb7.size, below_step (below_step (below_drew1 (Below.refl _ _)) hb7) hb8⟩⟩
                    case rest =>
                      obtain ⟨B2, d2, rfl, rfl, HR2⟩ := hcut
                      obtain ⟨w10, rfl⟩ : ∃ w10 : World, w10 = wc := ⟨_, rfl⟩
                      clear t0 t1 t2 t3 hs1 hs2
                      have HG10 := Aside0.mk (blk_below HG9.out HR2.out.2)
                      have HC10 := Aside0.mk (Kd.C_drew (Kd.C_below (w := w9) HC9.out HR2.out.2))
                      have HB10 := Aside0.mk (below_step HB9.out HR2.out.2)
                      have t0 : w10.cell? ⟨g, 0, none⟩ = some (.int .i64 X) := blk_cell HG10.out 0
                      have t1 : w10.cell? ⟨g, 1, none⟩ = some (.int .i64 Y) := blk_cell HG10.out 1
                      have t2 : w10.cell? ⟨g, 2, none⟩ = some (.int .i64 W) := blk_cell HG10.out 2
                      have t3 : w10.cell? ⟨g, 3, none⟩ = some (.int .i64 H) := blk_cell HG10.out 3
                      go_upto_region 16 with fail
                      go_cut [23, 24] (fun s19 s20 wx => ∃ B d, s19 = .slice B q3.length d ∧ s20 = .int .i64 0 ∧ Aside0 (Kd.R k71 71 wx w10.heap.size (fun _ => True) (.slice B q3.length d) q3 ∧ Below w10.heap.size w10 wx))
                      case first =>
                        go_region_held3 (fun w' => w'.cell? ⟨g, 0, none⟩ = some (.int .i64 X) ∧ w'.cell? ⟨g, 1, none⟩ = some (.int .i64 Y) ∧ w'.cell? ⟨g, 2, none⟩ = some (.int .i64 W) ∧ w'.cell? ⟨g, 3, none⟩ = some (.int .i64 H))
                          (first | exact ⟨t0, t1, t2, t3⟩ | exact ⟨k0, k1, k2, k3⟩ | exact ⟨m0, m1, m2, m3⟩)
                          (first | (go_at_call 20; refine (own_c P hPl Xs HX2.out A2 c2 _ HC10.out hcc2).mono ?_; rintro e x1 ⟨A7, c7, rfl, hc7, hC7, hb7⟩; have k0 := pw_cell_below hb7 t0; have k1 := pw_cell_below hb7 t1; have k2 := pw_cell_below hb7 t2; have k3 := pw_cell_below hb7 t3) | (go_at_call 19; refine (query_c P _ _ _ _ q3 0 HQ3.out A7 c7 _ hC7 hc7).mono ?_; rintro e x2 ⟨B, d, rfl, hR8, hb8⟩; have m0 := pw_cell_below hb8 k0; have m1 := pw_cell_below hb8 k1; have m2 := pw_cell_below hb8 k2; have m3 := pw_cell_below hb8 k3))
                        all_goals go_wp2
                        all_goals go_meet
                        all_goals exact ⟨_, _, rfl, rfl, ⟨Kd.R_lower hR8 hb7.size, below_step (below_step (below_drew1 (Below.refl _ _)) hb7) hb8⟩⟩
                      case rest =>
                        obtain ⟨B3, d3, rfl, rfl, HR3⟩ := hcut
                        obtain ⟨w11, rfl⟩ : ∃ w11 : World, w11 = wc := ⟨_, rfl⟩
                        clear t0 t1 t2 t3
                        have HG11 := Aside0.mk (blk_below HG10.out HR3.out.2)
                        have HB11 := Aside0.mk (below_step HB10.out HR3.out.2)
                        have t0 : w11.cell? ⟨g, 0, none⟩ = some (.int .i64 X) := blk_cell HG11.out 0
                        have t1 : w11.cell? ⟨g, 1, none⟩ = some (.int .i64 Y) := blk_cell HG11.out 1
                        have t2 : w11.cell? ⟨g, 2, none⟩ = some (.int .i64 W) := blk_cell HG11.out 2
                        have t3 : w11.cell? ⟨g, 3, none⟩ = some (.int .i64 H) := blk_cell HG11.out 3
                        go_upto_region 17 with fail
                        go_cut [26] (fun s26 wx => s26 = .int .i64 2 ∧ Aside0 (Below w11.heap.size w11 wx))
                        case first =>
                          go_wp2_with (first | (go_at_call 19; refine (query_c [] _ _ _ _ [] 2 HQN.out none 0 _ (Kd.C_nil _ _) (Nat.le_refl _)).mono ?_; rintro e x2 ⟨B, d, rfl, hR8, hb8⟩))
                          go_meet
                          exact ⟨rfl, ⟨hb8⟩⟩
                        case rest =>
                          obtain ⟨rfl, HW12⟩ := hcut
                          obtain ⟨w12, rfl⟩ : ∃ w12 : World, w12 = wc := ⟨_, rfl⟩
                          clear t0 t1 t2 t3
                          have HB12 := Aside0.mk (below_step HB11.out HW12.out)
                          have hb10 := Aside0.mk (below_step (below_step HR2.out.2 HR3.out.2) HW12.out)
                          have S1 := Aside0.mk (Kd.R_below HR1.out.1 hb10.out)
                          have S2 := Aside0.mk (Kd.R_below HR2.out.1 (below_step HR3.out.2 HW12.out))
                          have S3 := Aside0.mk (Kd.R_below HR3.out.1 HW12.out)
                          have hb8 := Aside0.mk (below_step HR1.out.2 hb10.out)
                          have hlt1 := Aside0.mk (Kd.R_lt HR1.out.1)
                          have hge3 := Aside0.mk (Kd.R_base HR3.out.1)
                          have hsz := Aside0.mk HR2.out.2.size
                          have HBw := HB8
                          clear HG8 HC8 HB8 HR1 HG9 HC9 HB9 HR2 HG10 HC10 HB10 HR3 HG11 HB11 HW12
                          go_wp2_with (first | ((with_reducible refine gate_builtin (b := .append) (xs := #[.tmp 154, .tmp 155]) rfl ?_); (try (refine gate_guard (by rfl) ?_; dsimp only)); at_builtin; refine Kd.R_append_rows k71 (w0 := w8) w8.heap.size rfl (.tmp 154) (.tmp 155) 23 71 (.agg #[(.int .i64 0), (.int .i64 0), (.int .i64 0), (.int .u64 0)]) 32 rfl Try.underlying23 info71 rfl (by decide) (by omega) (.slice B1 q1.length d1) q1 q2 _ _ _ (fun _ => True) (fun _ => False) rfl rfl ?aO ?aR (fun _ _ h => h) (fun _ h => h.elim) (fun _ _ => trivial) ?aB ?aS ?aL ?_; (case aO => exact S1.out); (case aR => exact (Kd.R_reads' S2.out).2.2); (case aB => exact hb8.out); (case aS => exact hb8.out.size); (case aL => have h1 : q1.length ≤ 1000000 := HL1.out; have h2 : q2.length ≤ 1000000 := HL2.out; omega); intro v13 w13 ho hb hg hat; rw [HQE.out] at ho; have S4 := Aside0.mk ho; have S5 := Aside0.mk (Kd.R_grown2 S3.out rfl hg (fun k hk hv => by have h1 := hlt1.out k hk; have h2 := hge3.out k (by rw [← hv]); have h3 := hsz.out; omega)); have HB13 := Aside0.mk hb; clear ho hb hg hat; obtain ⟨A13, c13, rfl⟩ := Kd.R_slice S4.out) | (go_at_call 16; refine (same_c q3 HL3.out A13 c13 B3 d3 _ (Kd.R_reads' S4.out).2.2 (Kd.R_reads' S4.out).2.1 (Kd.R_reads' S5.out).2.2 (Kd.R_reads' S5.out).2.1).mono ?_; rintro e w14 ⟨rfl, hd14⟩) | (go_at_call 17; refine (skymosaiclaw36_lives.calls kl true _ HLV.out).mono ?_; rintro e w15 ⟨rfl, hb15⟩))
                          go_ret
                          exact ⟨rfl, below_step (drawn_below hd14 (below_step HBw.out HB13.out)) hb15⟩
theorem wfW (a : Int) : (Lit.int .i64 (wrap64 a)).wf = true := by
  have h : -9223372036854775808 ≤ wrap64 a ∧ wrap64 a ≤ 9223372036854775807 := by unfold wrap64; omega
  generalize wrap64 a = b at h
  simp [Lit.wf, IntKind.min, IntKind.max, IntKind.bits, IntKind.signed]
  omega
/-- The law answers true, for every list of numbers, window, number and cut. -/
theorem law4_holds (l : List Int) (hm : l.length ≤ 9223372036854775806) (hw : ∀ x ∈ l, (Lit.int .i64 x).wf = true) (x y wd h n cut : Int) (w2 : (Lit.int .i64 n).wf = true) (w3 : (Lit.int .i64 cut).wf = true) (kl : Nat) (hlv : skymosaiclaw36_lives.f kl = some true)
    (A : Option Addr) (c : Nat) (w : World) (hr : Kd.C (Kd.int .i64) w A l.length l) (hc : l.length ≤ c) :
    Calls Try.prog 4 #[.slice A l.length c, .agg #[.int .i64 x, .int .i64 y, .int .i64 wd, .int .i64 h], .int .i64 n, .int .i64 cut] w fun e w' => e = .returned (.bool true) ∧ Below w.heap.size w w' := by
  obtain ⟨s, hs, hok⟩ := sources_ends l hm hw
  have hp : (packF s).2 = 0 := by unfold packF; rw [if_pos hok.1, hok.2]; rfl
  have hpl := packF_len s
  obtain ⟨hu, -, -, -⟩ := unpack_back s hp
  have hn := wfI w2
  obtain ⟨X, hX, hX0, hX1⟩ := around_some n 17 w2 (by omega) (by omega)
  obtain ⟨Y, hY, hY0, hY1⟩ := around_some (wrap64 (Int.tdiv n 17)) 17 (wfW _) (by omega) (by omega)
  obtain ⟨W, hW, hW0, hW1⟩ := around_some (wrap64 (Int.tdiv n 289)) (17 - X) (wfW _) (by omega) (by omega)
  obtain ⟨H, hH, hH0, hH1⟩ := around_some (wrap64 (Int.tdiv n 4913)) (17 - Y) (wfW _) (by omega) (by omega)
  obtain ⟨K, hK, hK0, hK1⟩ := around_some cut (H + 1) w3 (by omega) (by omega)
  have hQ : ∀ y0 h0, 0 ≤ y0 → 0 ≤ h0 → y0 + h0 ≤ 16 → queryF (packF s).1 X y0 W h0 = (rowsQ s X y0 W h0.toNat 0, 0) := by
    intro y0 h0 a b c
    unfold queryF
    rw [hu]
    have i1 : inQ X W = true := by simp [inQ]; omega
    have i2 : inQ y0 h0 = true := by simp [inQ]; omega
    rw [i1, i2]; rfl
  refine law4 l s hs hp (packF s).1 (by omega) _ rfl rfl x y wd h n cut X Y W H K hX hY hW hH hK ⟨hX0, hX1⟩ ⟨hY0, hY1⟩ ⟨hW0, hW1⟩ ⟨hH0, hH1⟩ ⟨hK0, hK1⟩ _ _ _ (hQ Y K (by omega) (by omega) (by omega)) (hQ (Y + K) (H - K) (by omega) (by omega) (by omega)) (hQ Y H (by omega) (by omega) (by omega)) ?_ ?_ kl hlv A c w hr hc
  · have h1 := rowsQ_shift s X Y W (H - K).toNat 0 K
    have h2 := rowsQ_split s X Y W K.toNat (H - K).toNat 0
    rw [← h1, ← show K.toNat + (H - K).toNat = H.toNat from by omega, ← h2]
    rw [show ((K.toNat : Nat) : Int) = K from by omega]
  · unfold queryF
    have : unpackF [] = ([], 2) := rfl
    rw [this]; rfl
end Go.Proofs.Ytgmbjgddelcceaa.P
