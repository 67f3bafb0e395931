import Derived.Test.YtgmbjgddelcceaaUGivenH
import Derived.Test.YtgmbjgddelcceaaUPlainK
import Derived.Deep.RegionLaw
import Derived.Deep.RegionHeld3
import Derived.Test.YtgmbjgddelcceaaUPlainF
import Derived.Test.YtgmbjgddelcceaaUPlainI
import Derived.Test.YtgmbjgddelcceaaUPlainA
namespace Go.Proofs.Ytgmbjgddelcceaa.P
open Go.RowKit Go.Proofs.YtgmbjgddelcceaaW.PrintWords Go.Proofs.YtgmbjgddelcceaaW.PrintLast Go.Proofs.YtgmbjgddelcceaaW.PrintMore
attribute [local go_sem] max2_int min2_int max_two min_two max_three min_three max_four min_four
set_option linter.unusedVariables false
set_option linter.unusedSimpArgs false
theorem encode_c (P : List S80) (hg : P.all goodU = true) (B : List Int) (e0 : Int) (he : encF P = (B, e0)) (A : Option Addr) (c : Nat) (w : World) (hr : Kd.C k80 w A P.length P) (hc : P.length ≤ c) :
    Calls Try.prog 24 #[.slice A P.length c] w fun e w' => ∃ A' c', e = .returned (.tuple #[.slice A' B.length c', .int .i64 e0]) ∧ Kd.R (Kd.int .u8) 5 w' w.heap.size (fun _ => True) (.slice A' B.length c') B ∧ Below w.heap.size w w' := by
  refine (encode_calls A c P hg w hr hc).mono ?_
  rw [he]
  rintro e w' ⟨v, rfl, h1, h2⟩
  obtain ⟨A', c', rfl⟩ := Kd.R_slice h1
  exact ⟨A', c', rfl, h1, h2⟩
theorem decode_c (X : List Int) (z : List S80) (e0 : Int) (hz : decF X = (z, e0)) (hl : X.length ≤ 1000000000) (A : Option Addr) (c : Nat) (w : World) (hr : Kd.C (Kd.int .u8) w A X.length X) (hc : X.length ≤ c) :
    Calls Try.prog 30 #[.slice A X.length c] w fun e w' => ∃ A' c', e = .returned (.tuple #[.slice A' z.length c', .int .i64 e0]) ∧ z.length ≤ c' ∧ Kd.C k80 w' A' z.length z ∧ Below w.heap.size w w' := by
  refine (decode_calls A c X w hr hc hl).mono ?_
  rw [hz]
  rintro e w' ⟨v, rfl, h1, h2⟩
  obtain ⟨A', c', rfl⟩ := Kd.R_slice h1
  obtain ⟨-, h3, h4⟩ := Kd.R_reads' h1
  exact ⟨A', c', rfl, h3, h4, h2⟩
theorem refenc_c (Xs : List S74) (B : List Int) (hE : Ev (fun k => skymosaicref36_Encode.f k Xs) B) (A : Option Addr) (c : Nat) (w : World) (hr : Kd.C k74 w A Xs.length Xs) (hc : Xs.length ≤ c) :
    Calls Try.prog 26 #[.slice A Xs.length c] w fun e w' => ∃ A' c', e = .returned (.slice A' B.length c') ∧ B.length ≤ c' ∧ Kd.C (Kd.int .u8) w' A' B.length B ∧ Below w.heap.size w w' := by
  obtain ⟨k, hk⟩ := hE.rounds
  refine (skymosaicref36_Encode.calls k A c Xs B w hr hc hk).mono ?_
  rintro e w' ⟨v, rfl, h1, h2⟩
  obtain ⟨A', c', rfl⟩ := Kd.R_slice h1
  obtain ⟨-, h3, h4⟩ := Kd.R_reads' h1
  exact ⟨A', c', rfl, h3, h4, h2⟩
theorem sameb_c (B : List Int) (hB : B.length ≤ 1000000) (A : Option Addr) (c : Nat) (A2 : Option Addr) (d : Nat) (w : World) (hr0 : Kd.C (Kd.int .u8) w A B.length B) (hc0 : B.length ≤ c) (hr1 : Kd.C (Kd.int .u8) w A2 B.length B) (hc1 : B.length ≤ d) :
    Calls Try.prog 25 #[.slice A B.length c, .slice A2 B.length d] w fun e w' => e = .returned (.bool true) ∧ Drawn0 w w' := by
  obtain ⟨k, hk⟩ := (samebytes_ends B hB).rounds
  exact skymosaicref01_SameBytes.calls k A c B A2 d B true w hr0 hc0 hr1 hc1 hk
theorem plain_c (P : List S80) (hP : P.length ≤ 1000000) (Xs : List S74) (hX : P.map conv = Xs) (A : Option Addr) (c : Nat) (w : World) (hr : Kd.C k80 w A P.length P) (hc : P.length ≤ c) :
    Calls Try.prog 14 #[.slice A P.length c] w fun e w' => ∃ A' c', e = .returned (.slice A' Xs.length c') ∧ Xs.length ≤ c' ∧ Kd.C k74 w' A' Xs.length Xs ∧ Below w.heap.size w w' := by
  subst hX
  obtain ⟨k, hk⟩ := (plain_ends P hP).rounds
  refine (skymosaiclaw36_plain.calls k A c P _ w hr hc hk).mono ?_
  rintro e w' ⟨v, rfl, h1, h2⟩
  obtain ⟨A', c', rfl⟩ := Kd.R_slice h1
  obtain ⟨-, h3, h4⟩ := Kd.R_reads' h1
  exact ⟨A', c', rfl, h3, h4, h2⟩
theorem same74_c (Xs : List S74) (hX : Xs.length ≤ 1000000) (A : Option Addr) (c : Nat) (A2 : Option Addr) (d : Nat) (w : World) (hr0 : Kd.C k74 w A Xs.length Xs) (hc0 : Xs.length ≤ c) (hr1 : Kd.C k74 w A2 Xs.length Xs) (hc1 : Xs.length ≤ d) :
    Calls Try.prog 13 #[.slice A Xs.length c, .slice A2 Xs.length d] w fun e w' => e = .returned (.bool true) ∧ Drawn0 w w' := by
  obtain ⟨k, hk⟩ := (same74_ends Xs hX).rounds
  exact skymosaicref36_Same.calls k A c Xs A2 d Xs true w hr0 hc0 hr1 hc1 hk
theorem few_c (bs : List Int) (m : Int) (ys : List Int) (hy : bs.take m.toNat = ys) (A : Option Addr) (c : Nat) (w : World) (hC : Kd.C (Kd.int .u8) w A bs.length bs) (hc : bs.length ≤ c) (hl : bs.length ≤ 140737488351232) (hm : 0 ≤ m) :
    Calls Try.prog 32 #[.slice A bs.length c, .int .i64 m] w fun e w' => ∃ A' c', e = .returned (.slice A' ys.length c') ∧ Kd.R (Kd.int .u8) 5 w' w.heap.size (fun _ => True) (.slice A' ys.length c') ys ∧ Below w.heap.size w w' := by
  subst hy
  refine (few_calls A c bs m w hC hc hl hm).mono ?_
  rintro e w' ⟨v, rfl, h1, h2⟩
  obtain ⟨A', c', rfl⟩ := Kd.R_slice h1
  exact ⟨A', c', rfl, h1, h2⟩
theorem few_d (bs : List Int) (m : Int) (ys : List Int) (hy : bs.take m.toNat = ys) (A : Option Addr) (c : Nat) (w : World) (hC : Kd.C (Kd.int .u8) w A bs.length bs) (hc : bs.length ≤ c) (hl : bs.length ≤ 140737488351232) (hm : 0 ≤ m) (w0 : World) (hB : Below w0.heap.size w0 w) :
    Calls Try.prog 32 #[.slice A bs.length c, .int .i64 m] w fun e w' => ∃ A' c', e = .returned (.slice A' ys.length c') ∧ Aside0 (Kd.R (Kd.int .u8) 5 w' w0.heap.size (fun k => k < w'.heap.size) (.slice A' ys.length c') ys) ∧ Aside0 (∀ k, k < w.heap.size → some k ≠ (Value.slice A' ys.length c').ownBlock) ∧ Aside0 (Below w0.heap.size w0 w') ∧ Aside0 (Below w.heap.size w w') := by
  refine (few_c bs m ys hy A c w hC hc hl hm).mono ?_
  rintro e w' ⟨A', c', rfl, h1, h2⟩
  exact ⟨A', c', rfl, ⟨Kd.R_lower (Kd.R_mono (Kd.R_bound h1) (fun k hk => hk.2.2.1)) hB.size⟩, ⟨fun k hk => R_below_ne h1 k hk⟩, ⟨below_step hB h2⟩, ⟨h2⟩⟩
section
variable {P : Program} {ops : Array Oper} {o : Oper} {a : Act} {Q : Exit → Act → World → Prop} {Kc : Act → World → Prop}
theorem app_step {w0 W : World} (base : Nat) (hw : Region.wanted o (yielded ops a.tmps) = true) (s x : Operand)
    (ho : o.op = .call { callee := .builtin .append, args := #[s, x], argTypes := #[51, 51] })
    (ht : P.underlying 51 = some (.slice 5)) (hinfo : (P.info? 5).map (fun i => (i.zero, i.size, i.bytes)) = some (some (.int .u8 0), 1, 1))
    (v : Value) (xs ys : List Int) (m c n : Nat) (hs : a.eval s = v) (hx : ∃ A, a.eval x = .slice A m c ∧ Kd.C (Kd.int .u8) W A m ys)
    (HO : Kd.R (Kd.int .u8) 5 W base (fun k => k < n) v xs) (HB : Below base w0 W) (hbase : base ≤ W.heap.size) (hl : xs.length + m ≤ 140737488355328)
    (h : ∀ v1 w1, Kd.R (Kd.int .u8) 5 w1 base (fun _ => True) v1 (xs ++ ys) → Below base w0 w1 → W.grownBy w1 v.ownBlock → Kc (a.put o.dst v1) w1) :
    if Region.wanted o (yielded ops a.tmps) = true then Oper.wp P o a W Kc Q else Kc (a.put o.dst undef) W := by
  obtain ⟨A, hx, HR⟩ := hx
  exact Kd.R_append_rows_step (Kd.int .u8) base hw s x 51 5 (.int .u8 0) 1 ho ht hinfo rfl (by decide) (by omega) v xs ys A m c (fun _ => True) (fun _ => False) hs hx (Kd.R_mono HO (fun _ _ => trivial)) HR (fun _ _ h => h) (fun _ h => h.elim) (fun _ _ => trivial) HB hbase (by omega) (fun v1 w1 h1 h2 h3 _ => h v1 w1 h1 h2 h3)
end
theorem C_lt {w : World} {A : Option Addr} {n : Nat} {xs : List Int} (h : Kd.C (Kd.int .u8) w A n xs) (ad : Addr) (e : A = some ad) (hn : 0 < n) : ad.block < w.heap.size := by
  obtain ⟨ad', e', hc⟩ := Kd.at_int h 0 (by omega) (by omega)
  rw [e] at e'
  obtain rfl := Option.some.inj e'
  have := World.block_lt_of_cell? _ _ hc
  simpa [Addr.add] using this
theorem C_grown1 {w w1 : World} {g : Nat} {A : Option Addr} {n : Nat} {xs : List Int} (h : Kd.C (Kd.int .u8) w A n xs) (hg : w.grownBy w1 (some g)) (hf : ∀ ad, A = some ad → 0 < n → ad.block ≠ g) : Kd.C (Kd.int .u8) w1 A n xs :=
  Kd.C_keep (W := w1) (g := g) 0 h ⟨hg.size, fun k hk hne _ => hg.block k hk (fun e => hne (Option.some.inj e))⟩ hf
theorem C1_of {w : World} {g : Nat} {x : Int} (h : w.heap[g]? = some (.cells #[.int .u8 x] 5 (0, 0))) : Kd.C (Kd.int .u8) w (some ⟨g, 0, none⟩) 1 [x] := by
  refine ⟨rfl, by decide, fun _ => ⟨_, rfl, fun j u hj => ?_⟩⟩
  have h0 : w.cell? ⟨g, 0, none⟩ = some (.int .u8 x) := blk_cell h 0
  match j, hj with
  | 0, hj =>
    cases hj
    refine ⟨[.int .u8 x], rfl, rfl, ?_⟩
    intro i v hi
    match i, hi with
    | 0, hi => cases hi; exact h0
    | n + 1, hi => cases hi
  | n + 1, hj => cases hj
def Four (w : World) (ad : Addr) : Prop := ∀ i : Int, 0 ≤ i → i < 4 → ∃ A X c, w.cell? (ad.add i.toNat) = some (.slice A X.length c) ∧ X.length ≤ c ∧ Kd.C (Kd.int .u8) w A X.length X ∧ U8s X ∧ X.length ≤ 1000000
theorem Four.below {w w1 : World} {ad : Addr} (h : Four w ad) (hb : Below w.heap.size w w1) : Four w1 ad := fun i h0 h1 => by
  obtain ⟨A, X, c, a1, a2, a3, a4⟩ := h i h0 h1
  exact ⟨A, X, c, pw_cell_below hb a1, a2, Kd.C_below a3 hb, a4⟩
theorem four_of {w : World} {g : Nat} {X0 X1 X2 X3 : List Int} {A0 A1 A2 A3 : Option Addr} {c0 c1 c2 c3 : Nat}
    (h : w.heap[g]? = some (.cells #[.slice A0 X0.length c0, .slice A1 X1.length c1, .slice A2 X2.length c2, .slice A3 X3.length c3] 51 (0, 0)))
    (h0 : X0.length ≤ c0 ∧ Kd.C (Kd.int .u8) w A0 X0.length X0 ∧ U8s X0 ∧ X0.length ≤ 1000000)
    (h1 : X1.length ≤ c1 ∧ Kd.C (Kd.int .u8) w A1 X1.length X1 ∧ U8s X1 ∧ X1.length ≤ 1000000)
    (h2 : X2.length ≤ c2 ∧ Kd.C (Kd.int .u8) w A2 X2.length X2 ∧ U8s X2 ∧ X2.length ≤ 1000000)
    (h3 : X3.length ≤ c3 ∧ Kd.C (Kd.int .u8) w A3 X3.length X3 ∧ U8s X3 ∧ X3.length ≤ 1000000) : Four w ⟨g, 0, none⟩ := by
  intro i hi hi4
  have k : ∀ j : Nat, (⟨g, 0, none⟩ : Addr).add j = ⟨g, j, none⟩ := fun j => by simp [Addr.add]; exact fun h => h.symm
  rw [k]
  obtain hj | hj | hj | hj : i.toNat = 0 ∨ i.toNat = 1 ∨ i.toNat = 2 ∨ i.toNat = 3 := by omega
  all_goals rw [hj]
  · exact ⟨_, _, _, blk_cell h 0, h0⟩
  · exact ⟨_, _, _, blk_cell h 1, h1⟩
  · exact ⟨_, _, _, blk_cell h 2, h2⟩
  · exact ⟨_, _, _, blk_cell h 3, h3⟩
theorem U8s.put {X : List Int} (h : U8s X) (n : Nat) {b : Int} (hb : 0 ≤ b ∧ b < 256) : U8s (X.set n b) := fun x hx => (List.mem_or_eq_of_mem_set hx).elim (h x) (fun e => e ▸ hb)
theorem U8s.cut {X : List Int} (h : U8s X) (n : Nat) : U8s (X.take n) := fun x hx => h x (List.mem_of_mem_take hx)
end Go.Proofs.Ytgmbjgddelcceaa.P
namespace Go.Proofs.Ytgmbjgddelcceaa.P
open Go.RowKit Go.Proofs.YtgmbjgddelcceaaW.PrintWords Go.Proofs.YtgmbjgddelcceaaW.PrintLast Go.Proofs.YtgmbjgddelcceaaW.PrintMore
attribute [local go_sem] max2_int min2_int max_two min_two max_three min_three max_four min_four
set_option linter.unusedVariables false
set_option linter.unusedSimpArgs false
set_option maxHeartbeats 4000000 in
set_option maxRecDepth 100000 in
theorem law6 (l raw : List Int) (at_ bt J : Int) (s : List S71) (hs : Ev (fun k => skymosaicref36_Sources.f k l) s) (hp : (packF s).2 = 0) (P : List S80) (hPl : P.length ≤ 1000000) (hPg : P.all goodU = true) (Xs : List S74) (hXl : Xs.length ≤ 1000000) (hX1 : (packF s).1.map conv = Xs) (hX2 : P.map conv = Xs)
    (B : List Int) (hB0 : 0 < B.length) (hBl : B.length ≤ 900000) (hBu : U8s B) (hBe : encF P = (B, 0)) (hBr : Ev (fun k => skymosaicref36_Encode.f k Xs) B) (hBd : decF B = (P, 0))
    (hJ : skymosaicref01_Around.f at_ (B.length : Int) = some J) (hJ0 : 0 ≤ J) (hJ1 : J < B.length) (hraw : U8s raw) (hrl : raw.length ≤ 140737488351232) (hbt : 0 ≤ bt ∧ bt < 256) (kl : Nat) (hlv : skymosaiclaw36_lives.f kl = some true)
    (A : Option Addr) (c : Nat) (Ar : Option Addr) (cr : Nat) (w : World) (hr : Kd.C (Kd.int .i64) w A l.length l) (hc : l.length ≤ c) (hr2 : Kd.C (Kd.int .u8) w Ar raw.length raw) (hcr : raw.length ≤ cr) :
    Calls Try.prog 6 #[.slice A l.length c, .slice Ar raw.length cr, .int .i64 at_, .int .u8 bt] w fun e w' => e = .returned (.bool true) ∧ Below w.heap.size w w' := by
  have HR := Aside0.mk hr
  have HR2 := Aside0.mk hr2
  have HS := Aside0.mk hs
  have HP0 := Aside0.mk hp
  have HX1 := Aside0.mk hX1
  have HX2 := Aside0.mk hX2
  have HPG := Aside0.mk hPg
  have HBU := Aside0.mk hBu
  have HBE := Aside0.mk hBe
  have HBR := Aside0.mk hBr
  have HBD := Aside0.mk hBd
  have HJ := Aside0.mk hJ
  have HRU := Aside0.mk hraw
  have HLV := Aside0.mk hlv
  clear hr hr2 hs hp hX1 hX2 hPg hBu hBe hBr hBd hJ hraw hlv
  obtain ⟨Y, hY⟩ : ∃ Y : List Int, Y = uintB 9 (B.length : Int) ++ B := ⟨_, rfl⟩
  have hYl : Y.length ≤ 910000 := by rw [hY, List.length_append]; have := uintB_len 9 (B.length : Int); omega
  have hYf : listF ⟨Y, 0⟩ = (B, ⟨[], 0⟩) := by rw [hY]; exact list_parse B (by omega)
  have hYu : (uintF ⟨Y, 0⟩).2.b.length ≤ 1000000000 := by rw [hY, uint_parse (B.length : Int) (by omega) (by omega) B]; show B.length ≤ _; omega
  have HY := Aside0.mk hY
  have HYF := Aside0.mk (And.intro hYf hYu)
  clear hY hYf hYu
  go_enter Try.func6, Try.ntmps6
  go_upto_region 1 with fail
  go_cut [9] (fun s9 wx => ∃ A2 c2, s9 = .slice A2 Xs.length c2 ∧ Aside0 (Xs.length ≤ c2 ∧ Kd.C k74 wx A2 Xs.length Xs ∧ Below w.heap.size w wx))
  case first =>
    go_wp2_with (first | (go_at_call 9; refine (sources_c l s HS.out A c _ HR.out hc).mono ?_; rintro e w1 ⟨A1, c1, rfl, hc1, hC1, hb1⟩) | (go_at_call 12; refine (refpack_c s HP0.out Xs HX1.out A1 c1 _ hC1 hc1).mono ?_; rintro e w2 ⟨A2, c2, rfl, hc2, hC2, hb2⟩))
    go_meet
    exact ⟨_, _, rfl, ⟨hc2, hC2, below_step hb1 hb2⟩⟩
  case rest =>
    obtain ⟨A2, c2, rfl, HC2⟩ := hcut
    obtain ⟨w2, rfl⟩ : ∃ w2 : World, w2 = wc := ⟨_, rfl⟩
    have hcc2 := HC2.out.1
    go_upto_region 2 with fail
    go_cut [11, 12] (fun s11 s12 wx => ∃ A3 c3, s11 = .slice A3 B.length c3 ∧ s12 = .int .i64 0 ∧ Aside0 (B.length ≤ c3 ∧ Kd.C (Kd.int .u8) wx A3 B.length B ∧ Below w2.heap.size w2 wx))
    case first =>
      go_wp2_with (first | (go_at_call 20; refine (own_c P hPl Xs HX2.out A2 c2 _ HC2.out.2.1 hcc2).mono ?_; rintro e w3 ⟨A7, c7, rfl, hc7, hC7, hb7⟩) | (go_at_call 24; refine (encode_c P HPG.out B 0 HBE.out A7 c7 _ hC7 hc7).mono ?_; rintro e w4 ⟨A8, c8, rfl, hR8, hb8⟩))
      go_meet
      exact ⟨_, _, rfl, rfl, ⟨(Kd.R_reads' hR8).2.1, (Kd.R_reads' hR8).2.2, below_step hb7 hb8⟩⟩
    case rest =>
      obtain ⟨A3, c3, rfl, rfl, HC3⟩ := hcut
      obtain ⟨w3, rfl⟩ : ∃ w3 : World, w3 = wc := ⟨_, rfl⟩
      have hcc3 := HC3.out.1
      have HB3 := Aside0.mk (below_step HC2.out.2.2 HC3.out.2.2)
      have HX3 := Aside0.mk (Kd.C_below HC2.out.2.1 HC3.out.2.2)
      have HE3 := Aside0.mk HC3.out.2.1
      clear HC2 HC3
      go_upto_region 3 with fail
      go_cut [13] (fun s13 wx => ∃ gw : Nat, s13 = .pointer (some ⟨gw, 0, none⟩) ∧ Aside0 (WS w3.heap.size gw [] wx ∧ Below w3.heap.size w3 wx))
      case first =>
        go_wp2
        go_meet
        exact ⟨_, rfl, ⟨initWS w3, below_alloc (Below.refl _ _) _⟩⟩
      case rest =>
        obtain ⟨gw, rfl, HW4⟩ := hcut
        obtain ⟨w4, rfl⟩ : ∃ w4 : World, w4 = wc := ⟨_, rfl⟩
        have hb4 : w3.heap.size ≤ w4.heap.size := HW4.out.2.size
        go_upto_region 4 with fail
        go_cut [] (fun wx => Aside0 (WS w3.heap.size gw Y wx ∧ Below w3.heap.size w3 wx))
        case first =>
          go_wp2_with fail
          refine (wraw_calls w3.heap.size gw [] A3 c3 B _ HW4.out.1 hb4 (by simp) (Kd.C_below HE3.out HW4.out.2) hcc3 (by omega) HBU.out).mono ?_
          rintro e w5 ⟨rfl, h1, h2, h3⟩
          have HH := Aside0.mk (And.intro h1 h2)
          clear h1 h2 h3
          go_wp2
          go_meet
          obtain ⟨h1, h2⟩ := HH.out
          rw [List.nil_append, ← HY.out] at h1
          exact ⟨h1, HW4.out.2.trans h2⟩
        case rest =>
          obtain ⟨w5, rfl⟩ : ∃ w5 : World, w5 = wc := ⟨_, rfl⟩
          have HW5 := hcut
          go_upto_region 5 with fail
          go_cut [14] (fun s14 wx => ∃ g, s14 = .pointer (some ⟨g, 0, none⟩) ∧ Aside0 (RS (fun k => w5.heap.size ≤ k) g ⟨Y, 0⟩ wx ∧ w5.heap.size ≤ g ∧ Below w5.heap.size w5 wx))
          case first =>
            go_wp2_with fail
            refine (done_calls w3.heap.size gw _ _ HW5.out.1 (by omega)).mono ?_
            rintro e w6 ⟨v, rfl, h1, h2⟩
            have HH := Aside0.mk (And.intro h1 h2)
            obtain ⟨A6, c6, rfl⟩ := Kd.R_slice h1
            clear h1 h2
            go_wp2_with fail
            refine (read_calls A6 c6 _ _ (Kd.R_reads' HH.out.1).2.2 (Kd.R_reads' HH.out.1).2.1 (by omega)).mono ?_
            rintro e w7 ⟨g, rfl, h1, h2, h3⟩
            have HH2 := Aside0.mk (And.intro h1 (And.intro h2 h3))
            clear h1 h2 h3
            go_wp2
            go_meet
            have hsz := HH.out.2.size
            exact ⟨_, rfl, ⟨HH2.out.1.mono (fun k hk => Nat.le_trans hsz hk), Nat.le_trans hsz HH2.out.2.1, below_step HH.out.2 HH2.out.2.2⟩⟩
          case rest =>
            obtain ⟨g, rfl, HG6⟩ := hcut
            obtain ⟨w6, rfl⟩ : ∃ w6 : World, w6 = wc := ⟨_, rfl⟩
            have HB5 := Aside0.mk (below_step HB3.out HW5.out.2)
            have HX5 := Aside0.mk (Kd.C_below HX3.out HW5.out.2)
            have HE5 := Aside0.mk (Kd.C_below HE3.out HW5.out.2)
            have HX6 := Aside0.mk (Kd.C_below HX5.out HG6.out.2.2)
            have HE6 := Aside0.mk (Kd.C_below HE5.out HG6.out.2.2)
            have HRS := Aside0.mk HG6.out.1
            have hg5 : w5.heap.size ≤ g := HG6.out.2.1
            have HB56 := Aside0.mk HG6.out.2.2
            clear HG6 HW5 HW4 HB3 HX3 HE3 hb4
            have hne : ((B.length : Int) == 0) = false := beq_eq_false_iff_ne.mpr (by omega)
            have hbl6 : B.length ≤ 1000000 := by omega
            go_upto_region 8 with (first | (go_at_call 26; refine (refenc_c Xs B HBR.out A2 c2 _ HX6.out hcc2).mono ?_; rintro e w7 ⟨A7, c7, rfl, hc7, hC7, hb7⟩; have H7 := Aside0.mk (And.intro hC7 hb7); clear hC7 hb7) | (go_at_call 25; refine (sameb_c B hbl6 A3 c3 A7 c7 _ (Kd.C_below HE6.out H7.out.2) hcc3 H7.out.1 hc7).mono ?_; rintro e w8 ⟨rfl, hd8⟩; have HD8 := Aside0.mk (below_step H7.out.2 hd8.below); clear hd8))
            have HB58 := Aside0.mk (below_step HB56.out HD8.out)
            have HRS8 := Aside0.mk (HRS.out.below HD8.out)
            clear HX6 HE6 HRS HB56 H7 HD8 hne
            go_cut [15, 16] (fun s15 s16 wx => ∃ A9 c9, s15 = .slice A9 P.length c9 ∧ s16 = .int .i64 0 ∧ Aside0 (P.length ≤ c9 ∧ Kd.C k80 wx A9 P.length P ∧ Below w5.heap.size w5 wx))
            case first =>
              go_wp2_with fail
              refine (raw_calls g ⟨Y, 0⟩ _ HRS8.out (by show Y.length ≤ _; omega) HYF.out.2).mono ?_
              rw [HYF.out.1]
              rintro e w9 ⟨v, rfl, h1, h2, h3⟩
              have HH := Aside0.mk (And.intro h1 h3)
              obtain ⟨A9, c9, rfl⟩ := Kd.R_slice h1
              clear h1 h2 h3
              have HB9 := Aside0.mk (HB58.out.grown HH.out.2 HB58.out.size (fun k hk => by have := Option.some.inj hk; omega))
              go_wp2_with fail
              refine (decode_c B P 0 HBD.out (by omega) A9 c9 _ (Kd.R_reads' HH.out.1).2.2 (Kd.R_reads' HH.out.1).2.1).mono ?_
              rintro e w10 ⟨A10, c10, rfl, hc10, hC10, hb10⟩
              go_wp2
              go_meet
              exact ⟨_, _, rfl, rfl, ⟨hc10, hC10, below_step HB9.out hb10⟩⟩
            case rest =>
              obtain ⟨A9, c9, rfl, rfl, HC9⟩ := hcut
              obtain ⟨w9, rfl⟩ : ∃ w9 : World, w9 = wc := ⟨_, rfl⟩
              have hcc9 := HC9.out.1
              have HX9 := Aside0.mk (Kd.C_below HX5.out HC9.out.2.2)
              clear HRS8 HB58
              go_upto_region 11 with (first | (go_at_call 14; refine (plain_c P hPl Xs HX2.out A9 c9 _ HC9.out.2.1 hcc9).mono ?_; rintro e w10 ⟨A7, c7, rfl, hc7, hC7, hb7⟩; have H7 := Aside0.mk (And.intro hC7 hb7); clear hC7 hb7) | (go_at_call 13; refine (same74_c Xs hXl A7 c7 A2 c2 _ H7.out.1 hc7 (Kd.C_below HX9.out H7.out.2) hcc2).mono ?_; rintro e w11 ⟨rfl, hd8⟩; have HD8 := Aside0.mk (below_step H7.out.2 hd8.below); clear hd8))
              have HB11 := Aside0.mk (below_step HC9.out.2.2 HD8.out)
              have HW11 := Aside0.mk (below_step HB5.out HB11.out)
              have HE11 := Aside0.mk (Kd.C_below HE5.out HB11.out)
              have HR11 := Aside0.mk (Kd.C_below HR2.out HW11.out)
              clear HX9 HC9 H7 HD8 HX5 HE5 HB5 HB11 HR2 HR
              have htk : B.take (B.length : Int).toNat = B := List.take_of_length_le (by omega)
              have HTK := Aside0.mk htk
              clear htk
              go_cut [17] (fun s17 wx => ∃ gb cb : Nat, s17 = .slice (some ⟨gb, 0, none⟩) B.length cb ∧ Aside0 (Kd.R (Kd.int .u8) 5 wx w11.heap.size (fun _ => True) (.slice (some ⟨gb, 0, none⟩) B.length cb) B ∧ Below w11.heap.size w11 wx ∧ w11.heap.size ≤ gb))
              case first =>
                go_wp2_with fail
                refine (few_c B (B.length : Int) B HTK.out A3 c3 _ HE11.out hcc3 (by omega) (by omega)).mono ?_
                rintro e w12 ⟨A7, c7, rfl, hR7, hb7⟩
                go_wp2
                go_meet
                obtain ⟨gb, cap, hv, h1, h2, _⟩ := Kd.R_form hR7 hB0
                injection hv with e1 _ e2
                subst e1
                exact ⟨gb, c7, rfl, ⟨hR7, hb7, h1⟩⟩
              case rest =>
                obtain ⟨gb, cb, rfl, HF⟩ := hcut
                obtain ⟨w12, rfl⟩ : ∃ w12 : World, w12 = wc := ⟨_, rfl⟩
                have HB12 := Aside0.mk (below_step HW11.out HF.out.2.1)
                have HE12 := Aside0.mk (Kd.C_below HE11.out HF.out.2.1)
                have HR12 := Aside0.mk (Kd.C_below HR11.out HF.out.2.1)
                have HF12 := Aside0.mk HF.out.1
                have hgb : w11.heap.size ≤ gb := HF.out.2.2
                have HEF := Aside0.mk (fun ad (e : A3 = some ad) (hn : 0 < B.length) => Nat.ne_of_lt (Nat.lt_of_lt_of_le (C_lt HE11.out ad e hn) hgb))
                have HRF := Aside0.mk (fun ad (e : Ar = some ad) (hn : 0 < raw.length) => Nat.ne_of_lt (Nat.lt_of_lt_of_le (C_lt HR11.out ad e hn) hgb))
                have hw11 : w.heap.size ≤ w11.heap.size := HW11.out.size
                have hbk := Kd.R_form HF.out.1 hB0
                have hJn : J < ((B.length : Nat) : Int) := hJ1
                have hcell : w12.cell? ⟨gb, J.toNat, none⟩ = some (.int .u8 (rd B J)) := by
                  obtain ⟨ad, e, h⟩ := Kd.at_int (Kd.R_reads' HF.out.1).2.2 J hJ0 hJn
                  obtain rfl := Option.some.inj e
                  have e3 : (⟨gb, 0, none⟩ : Addr).add J.toNat = ⟨gb, J.toNat, none⟩ := by simp [Addr.add]; intro h; omega
                  rw [e3] at h
                  exact h
                have hfz : w12.frozen? ⟨gb, J.toNat, none⟩ = false := by
                  obtain ⟨g', cap', e, _, _, cells, hcl⟩ := hbk
                  injection e with e1
                  have e2 : gb = g' := congrArg Addr.block (Option.some.inj e1)
                  rw [← e2] at hcl
                  exact blk_frozen hcl J.toNat
                clear hbk HF HE11 HR11 HW11
                go_upto_region 12 with fail
                go_cut [] (fun wx => Aside0 (Kd.R (Kd.int .u8) 5 wx w11.heap.size (fun _ => True) (.slice (some ⟨gb, 0, none⟩) B.length cb) (B.set J.toNat bt) ∧ w12.grownBy wx (some gb)))
                case first =>
                  have hac := around_c at_ (B.length : Int) J HJ.out w12
                  have HP1 := Aside0.mk (fun n : Nat => Kd.R_putg (enc := Value.int .u8) (h1 := fun _ => rfl) (Kd.R_drewN HF12.out n) J bt)
                  go_wp2_with (go_at_call 18; refine hac.mono ?_; rintro e w13 ⟨rfl, ⟨nd, rfl⟩⟩)
                  go_meet
                  exact ⟨(HP1.out nd).1, (grown_drewN ⟨rfl, rfl, rfl, Nat.le_refl _, fun _ _ _ => rfl⟩ nd : w12.grownBy (w12.drewN nd) (some gb)).trans (HP1.out nd).2⟩
                case rest =>
                  obtain ⟨w13, rfl⟩ : ∃ w13 : World, w13 = wc := ⟨_, rfl⟩
                  have HF13 := Aside0.mk hcut.out.1
                  have HG13 := Aside0.mk hcut.out.2
                  have HE13p := Aside0.mk (C_grown1 HE12.out HG13.out HEF.out)
                  have HE13 := Aside0.mk (Kd.C_drew HE13p.out)
                  have HR13p := Aside0.mk (C_grown1 HR12.out HG13.out HRF.out)
                  have HR13 := Aside0.mk (Kd.C_drew HR13p.out)
                  have HB13 := Aside0.mk (HB12.out.grown HG13.out HB12.out.size (fun k hk => by have := Option.some.inj hk; omega))
                  clear HB12 HE12 HR12 HF12 HG13 hcut hcell hfz HEF HRF
                  obtain ⟨q0, hq0, _, hqsz, _⟩ := info_parts info5
                  have hcutb := cut_to (P := Try.prog) 51 5 .i64 Try.underlying51 hq0 A3 B.length c3 ((B.length : Int) - 1) (by omega) (by omega) hcc3
                  have hws : IntKind.i64.wrap ((B.length : Int) - 1) = (B.length : Int) - 1 := IntWalk.i64_in _ (by omega)
                  have htn : ((B.length : Int) - 1).toNat = B.length - 1 := by omega
                  rw [htn] at hcutb
                  clear hq0 hqsz htn
                  go_upto_region 13 with fail
                  go_cut [18] (fun s18 wx => ∃ ad : Addr, s18 = .slice (some ad) 4 4 ∧ Aside0 (Four wx ad ∧ Below w13.heap.size w13 wx))
                  case first =>
                    go_region_held3 (fun _ => True) (trivial) (first
                      | (go_at_call 32; (with_reducible refine (few_d raw 60 (raw.take 60) rfl Ar cr _ ?_ hcr hrl (by decide) w13 ?_).mono ?_)
                         (first | with_reducible exact HR13.out | with_reducible exact Kd.C_drew (Kd.C_alloc HR13p.out _))
                         (first | with_reducible exact below_drew1 (Below.refl _ _) | with_reducible exact below_drew1 (below_alloc (Below.refl _ _) _))
                         rintro e x1 ⟨A13, c13, rfl, hRa, hna, hB1, hba⟩)
                      | (go_at_call 32; (with_reducible refine (few_d B (B.length : Int) B HTK.out A3 c3 _ ?_ hcc3 (by omega) (by omega) w13 ?_).mono ?_)
                         (first | with_reducible exact Kd.C_below HE13.out hba.out | with_reducible exact Kd.C_below (Kd.C_drew (Kd.C_alloc HE13p.out _)) hba.out | with_reducible exact Kd.C_alloc (Kd.C_below HE13.out hba.out) _)
                         (first | with_reducible exact hB1.out | with_reducible exact below_alloc hB1.out _)
                         rintro e x2 ⟨A14, c14, rfl, hRb, hnb, hB2, hbb⟩)
                      | ((refine app_step (P := Try.prog) (w0 := w13) w13.heap.size ?_ (.tmp 95) (.tmp 97) ?_ ?_ ?_ (.slice A14 B.length c14) B [bt] 1 1 x2.heap.size ?_ ?_ ?_ ?_ ?_ ?_ ?_); rfl; rfl; exact Try.underlying51; exact info5; rfl
                         refine ⟨_, rfl, ?_⟩
                         (first | with_reducible exact C1_of (blk_new _ _) | with_reducible exact Kd.C_below (C1_of (blk_new _ _)) hbb.out | with_reducible exact Kd.C_below (Kd.C_below (Kd.C_drew (C1_of (blk_new _ _))) hba.out) hbb.out)
                         (first | with_reducible exact hRb.out | with_reducible exact Kd.R_below hRb.out (below_alloc (Below.refl _ _) _))
                         (first | with_reducible exact hB2.out | with_reducible exact below_alloc hB2.out _)
                         (first | with_reducible exact hB2.out.size | (have := hB2.out.size; simp; omega))
                         omega
                         intro v1 x3 ho hb hg
                         have H3 := Aside0.mk (And.intro ho hb); have HG3 := Aside0.mk hg; clear ho hb hg; obtain ⟨A15, c15, rfl⟩ := Kd.R_slice H3.out.1)
                      | fail)
                    all_goals go_wp2
                    all_goals go_meet
                    all_goals
                      have hE3 := H3.out
                      have hr2 : Kd.R (Kd.int .u8) 5 x2 w13.heap.size (fun k => k < x1.heap.size) (.slice A13 (raw.take 60).length c13) (raw.take 60) := by
                        first
                          | with_reducible exact Kd.R_below hRa.out hbb.out
                          | with_reducible exact Kd.R_below (Kd.R_below hRa.out (below_alloc (Below.refl _ _) _)) hbb.out
                      have hne : ∀ k, k < x1.heap.size → some k ≠ (Value.slice A14 B.length c14).ownBlock := by
                        first
                          | with_reducible exact hnb.out
                          | with_reducible exact fun k hk => hnb.out k (Nat.lt_of_lt_of_le hk (below_alloc (Below.refl x1.heap.size x1) _).size)
                      have hr3 : Kd.R (Kd.int .u8) 5 x3 w13.heap.size (fun k => k < x1.heap.size) (.slice A13 (raw.take 60).length c13) (raw.take 60) := by
                        first
                          | with_reducible exact Kd.R_grown hr2 HG3.out hne
                          | with_reducible exact Kd.R_grown (Kd.R_below hr2 (below_alloc (Below.refl _ _) _)) HG3.out hne
                      have e60 : (raw.take 60).length = min 60 raw.length := List.length_take
                      have eset : (B.set J.toNat bt).length = B.length := List.length_set
                      have etk : (B.take (B.length - 1)).length = B.length - 1 := by rw [List.length_take]; omega
                      have eapp : (B ++ [bt]).length = B.length + 1 := by simp
                      have hcb := (Kd.R_reads' HF13.out).2.1
                      refine ⟨⟨x3.heap.size, 0, none⟩, ?_, ⟨?_, ?_⟩⟩
                      · rfl
                      · refine four_of (c0 := c13) (c1 := cb) (c2 := c3) (c3 := c15) (A0 := A13) (A1 := some ⟨gb, 0, none⟩) (A2 := A3) (A3 := A15) (X0 := raw.take 60) (X1 := B.set J.toNat bt) (X2 := B.take (B.length - 1)) (X3 := B ++ [bt]) ?_ ?_ ?_ ?_ ?_
                        · rw [e60, eset, etk, eapp]
                          exact blk_new _ _
                        · exact ⟨(Kd.R_reads' hr3).2.1, Kd.C_alloc (Kd.R_reads' hr3).2.2 _, HRU.out.cut 60, by omega⟩
                        · exact ⟨by omega, Kd.C_alloc (Kd.C_below (Kd.R_reads' HF13.out).2.2 hE3.2) _, HBU.out.put _ hbt, by omega⟩
                        · exact ⟨by omega, Kd.C_alloc (Kd.C_take (Kd.C_below HE13p.out hE3.2) (by omega)) _, HBU.out.cut _, by omega⟩
                        · exact ⟨(Kd.R_reads' hE3.1).2.1, Kd.C_alloc (Kd.R_reads' hE3.1).2.2 _, u8_app HBU.out (fun x hx => by rw [List.mem_singleton.1 hx]; exact hbt), by omega⟩
                      · exact below_alloc hE3.2 _
                  case rest =>
                    obtain ⟨ad, rfl, HK⟩ := hcut
                    obtain ⟨w14, rfl⟩ : ∃ w14 : World, w14 = wc := ⟨_, rfl⟩
                    have HB14 := Aside0.mk (below_step HB13.out HK.out.2)
                    have HF14 := Aside0.mk HK.out.1
                    clear HK HB13 HE13 HR13 HF13 HE13p HR13p hcutb hws
                    go_wp2
                    go_loopw [19] (fun v19 wr => ∃ i : Int, v19 = .int .i64 i ∧ Aside0 (0 ≤ i ∧ i ≤ 4) ∧ Aside0 (Below w14.heap.size w14 wr)) (fun v _ => 4 - (intOf v).toNat)
                    case atStart => exact ⟨0, rfl, ⟨by omega, by omega⟩, ⟨Below.refl _ _⟩⟩
                    case round =>
                      obtain ⟨i, rfl, HI, HB⟩ := hrel
                      have h0 := HI.out.1
                      by_cases hlt : i < 4
                      · obtain ⟨wo, rfl⟩ : ∃ wo : World, wo = wr := ⟨_, rfl⟩
                        obtain ⟨Ai, X, ci, hcell, hci, hC, hU, hL⟩ := HF14.out.below HB.out i h0 hlt
                        have HC := Aside0.mk hC
                        have HU := Aside0.mk hU
                        clear hC hU
                        obtain hz | ⟨z, hz, hen, hgz⟩ := dec_enc X HU.out
                        · have HZ := Aside0.mk hz
                          clear hz
                          go_wp2_with (first
                            | (go_at_call 30; refine (decode_c X [] 2 HZ.out (by omega) Ai ci _ HC.out hci).mono ?_; rintro e w7 ⟨A7, c7, rfl, h71, h72, h73⟩; have H7 := Aside0.mk (And.intro h71 (And.intro h72 h73)); clear h71 h72 h73)
                            | (go_at_call 24; refine (encode_c [] rfl [] 2 enc_nil A7 c7 _ H7.out.2.1 H7.out.1).mono ?_; rintro e w8 ⟨A8, c8, rfl, h81, h82⟩; have H8 := Aside0.mk (And.intro h81 h82); clear h81 h82)
                            | fail)
                          go_roundw
                          case rel => exact ⟨i + 1, rfl, ⟨by omega, by omega⟩, ⟨below_step (below_step HB.out H7.out.2.2) H8.out.2⟩⟩
                          case measure => simp [intOf]; omega
                        · have HZ := Aside0.mk hz
                          have HEN := Aside0.mk hen
                          have HGZ := Aside0.mk hgz
                          clear hz hen hgz
                          go_wp2_with (first
                            | (go_at_call 30; refine (decode_c X z 0 HZ.out (by omega) Ai ci _ HC.out hci).mono ?_; rintro e w7 ⟨A7, c7, rfl, h71, h72, h73⟩; have H7 := Aside0.mk (And.intro h71 (And.intro h72 h73)); clear h71 h72 h73; have hcell7 := pw_cell_below H7.out.2.2 hcell)
                            | (go_at_call 24; refine (encode_c z HGZ.out X 0 HEN.out A7 c7 _ H7.out.2.1 H7.out.1).mono ?_; rintro e w8 ⟨A8, c8, rfl, h81, h82⟩; have H8 := Aside0.mk (And.intro h81 h82); clear h81 h82; have hcell8 := pw_cell_below H8.out.2 hcell7)
                            | (go_at_call 25; refine (sameb_c X hL A8 c8 Ai ci _ (Kd.R_reads' H8.out.1).2.2 (Kd.R_reads' H8.out.1).2.1 (Kd.C_below (Kd.C_below HC.out H7.out.2.2) H8.out.2) hci).mono ?_; rintro e w9 ⟨rfl, hd9⟩; have HD9 := Aside0.mk hd9; clear hd9)
                            | fail)
                          go_roundw
                          case rel => exact ⟨i + 1, rfl, ⟨by omega, by omega⟩, ⟨drawn_below HD9.out (below_step (below_step HB.out H7.out.2.2) H8.out.2)⟩⟩
                          case measure => simp [intOf]; omega
                      · have HW := Aside0.mk (below_step HB14.out HB.out)
                        go_wp2_with (first
                          | (go_at_call 17; refine (skymosaiclaw36_lives.calls kl true _ HLV.out).mono ?_; rintro e w8 ⟨rfl, hd8⟩; have HD8 := Aside0.mk hd8; clear hd8)
                          | fail)
                        go_ret
                        exact ⟨rfl, below_step HW.out HD8.out⟩
end Go.Proofs.Ytgmbjgddelcceaa.P
namespace Go.Proofs.Ytgmbjgddelcceaa.P
open Go.RowKit Go.Proofs.YtgmbjgddelcceaaW.PrintWords Go.Proofs.YtgmbjgddelcceaaW.PrintLast Go.Proofs.YtgmbjgddelcceaaW.PrintMore
set_option linter.unusedVariables false
theorem law6_holds (l raw : List Int) (hm : l.length ≤ 9223372036854775806) (hw : ∀ x ∈ l, (Lit.int .i64 x).wf = true) (hrl : raw.length ≤ 140737488351232) (hwr : ∀ x ∈ raw, (Lit.int .u8 x).wf = true) (at_ bt : Int) (wa : (Lit.int .i64 at_).wf = true) (wb : (Lit.int .u8 bt).wf = true)
    (kl : Nat) (hlv : skymosaiclaw36_lives.f kl = some true)
    (A : Option Addr) (c : Nat) (Ar : Option Addr) (cr : Nat) (w : World) (hr : Kd.C (Kd.int .i64) w A l.length l) (hc : l.length ≤ c) (hr2 : Kd.C (Kd.int .u8) w Ar raw.length raw) (hcr : raw.length ≤ cr) :
    Calls Try.prog 6 #[.slice A l.length c, .slice Ar raw.length cr, .int .i64 at_, .int .u8 bt] w fun e w' => e = .returned (.bool true) ∧ Below w.heap.size w w' := by
  have u8 : ∀ x : Int, (Lit.int .u8 x).wf = true → 0 ≤ x ∧ x < 256 := by
    intro x h
    simp [Lit.wf, IntKind.min, IntKind.max, IntKind.bits, IntKind.signed] at h
    omega
  obtain ⟨s, hs, hok⟩ := sources_ends l hm hw
  have hp : (packF s).2 = 0 := by unfold packF; rw [if_pos hok.1, hok.2]; rfl
  obtain ⟨-, -, -, hpk⟩ := unpack_back s hp
  have hu := sources_params hs
  obtain ⟨-, -, hp16, hp256⟩ := pack_facts s hok.1 hok.2
  have hgood := pack_good s hok.1 hok.2 hu
  obtain ⟨he, hd⟩ := dec_back s hok.1 hok.2 hu hp
  have hpl := pieces_len (packL s)
  have hil := intB_len ((packL s).length : Int)
  have hbl : (encB (packL s)).length ≤ 900000 := by unfold encB; rw [List.length_append]; omega
  have hb0 : 0 < (encB (packL s)).length := by
    cases hx : encB (packL s) with
    | nil =>
      exfalso
      rw [hx] at hd
      have : (decF []).1.length = 0 := by decide +kernel
      rw [hd] at this
      simp only at this
      omega
    | cons x y => simp
  obtain ⟨J, hJ, hJ0, hJ1⟩ := around_some at_ ((encB (packL s)).length : Int) wa (by omega) (by omega)
  have hgU : (packL s).all goodU = true := List.all_eq_true.2 fun p hp => by
    have h := (hgood p hp).1.2.2.2.1
    unfold goodU
    rw [decide_eq_true h.1, decide_eq_true h.2]; rfl
  exact law6 l raw at_ bt J s hs hp (packL s) (by omega) hgU ((packL s).map conv) (by rw [List.length_map]; omega) (by rw [hpk]) rfl
    (encB (packL s)) hb0 hbl (encB_u8 _) he (renc_ends _ (by omega) (fun p hp => (hgood p hp).1)) hd hJ hJ0 hJ1 (fun x hx => u8 x (hwr x hx)) hrl (u8 bt wb) kl hlv A c Ar cr w hr hc hr2 hcr
end Go.Proofs.Ytgmbjgddelcceaa.P
