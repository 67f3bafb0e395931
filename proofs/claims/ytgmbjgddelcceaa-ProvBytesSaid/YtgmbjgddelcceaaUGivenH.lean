import Derived.Test.YtgmbjgddelcceaaUPlainD
import Derived.Test.YtgmbjgddelcceaaUPx18
namespace Go.Proofs.Ytgmbjgddelcceaa.P
open Go.RowKit Go.Proofs.YtgmbjgddelcceaaW.PrintWords Go.Proofs.YtgmbjgddelcceaaW.PrintLast Go.Proofs.YtgmbjgddelcceaaW.PrintMore
attribute [local go_sem] max2_int min2_int max_two min_two max_three min_three max_four min_four
attribute [local go_sem high] eqA71
set_option linter.unusedVariables false
set_option linter.unusedSimpArgs false
theorem sources_c (l : List Int) (s : List S71) (hs : Ev (fun k => skymosaicref36_Sources.f k l) s) (A : Option Addr) (c : Nat) (w : World) (hr : Kd.C (Kd.int .i64) w A l.length l) (hc : l.length ≤ c) :
    Calls Try.prog 9 #[.slice A l.length c] w fun e w' => ∃ A' c', e = .returned (.slice A' s.length c') ∧ s.length ≤ c' ∧ Kd.C k71 w' A' s.length s ∧ Below w.heap.size w w' := by
  obtain ⟨k, hk⟩ := hs.rounds
  refine (skymosaicref36_Sources.calls k A c l s w hr hc hk).mono ?_
  rintro e w' ⟨v, rfl, h1, h2⟩
  obtain ⟨A', c', rfl⟩ := Kd.R_slice h1
  obtain ⟨-, h3, h4⟩ := Kd.R_reads' h1
  exact ⟨A', c', rfl, h3, h4, h2⟩
theorem refpack_c (s : List S71) (hs : (packF s).2 = 0) (Xs : List S74) (hX : (packF s).1.map conv = Xs) (A : Option Addr) (c : Nat) (w : World) (hr : Kd.C k71 w A s.length s) (hc : s.length ≤ c) :
    Calls Try.prog 12 #[.slice A s.length c] w fun e w' => ∃ A' c', e = .returned (.tuple #[.slice A' Xs.length c', .int .i64 0]) ∧ Xs.length ≤ c' ∧ Kd.C k74 w' A' Xs.length Xs ∧ Below w.heap.size w w' := by
  subst hX
  obtain ⟨k, hk⟩ := (ref_pack s).rounds
  refine (skymosaicref36_Pack.calls k A c s _ _ w hr hc hk).mono ?_
  rintro e w' ⟨v, rfl, h1, h2⟩
  obtain ⟨A', c', rfl⟩ := Kd.R_slice h1
  obtain ⟨-, h3, h4⟩ := Kd.R_reads' h1
  exact ⟨A', c', by rw [hs], h3, h4, h2⟩
theorem own_c (P : List S80) (hP : P.length ≤ 1000000) (Xs : List S74) (hX : P.map conv = Xs) (A : Option Addr) (c : Nat) (w : World) (hr : Kd.C k74 w A Xs.length Xs) (hc : Xs.length ≤ c) :
    Calls Try.prog 20 #[.slice A Xs.length c] w fun e w' => ∃ A' c', e = .returned (.slice A' P.length c') ∧ P.length ≤ c' ∧ Kd.C k80 w' A' P.length P ∧ Below w.heap.size w w' := by
  subst hX
  obtain ⟨k, hk⟩ := (own_ends (P.map conv) (by simpa using hP)).rounds
  rw [own_back] at hk
  refine (skymosaiclaw36_own.calls k A c _ _ w hr hc hk).mono ?_
  rintro e w' ⟨v, rfl, h1, h2⟩
  obtain ⟨A', c', rfl⟩ := Kd.R_slice h1
  obtain ⟨-, h3, h4⟩ := Kd.R_reads' h1
  exact ⟨A', c', rfl, h3, h4, h2⟩
theorem around_c (n m r : Int) (h : skymosaicref01_Around.f n m = some r) (w : World) : Calls Try.prog 18 #[.int .i64 n, .int .i64 m] w fun e w' => e = .returned (.int .i64 r) ∧ Drawn0 w w' := skymosaicref01_Around.calls n m r w h
theorem drawn_below {B : Nat} {u W W' : World} (hd : Drawn0 W W') (h : Below B u W) : Below B u W' := by
  obtain ⟨n, rfl⟩ := hd
  exact pw_below_drewN h n
end Go.Proofs.Ytgmbjgddelcceaa.P
