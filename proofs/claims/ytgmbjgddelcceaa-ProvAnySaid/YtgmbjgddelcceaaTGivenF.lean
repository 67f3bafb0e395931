import Derived.Test.YtgmbjgddelcceaaTGivenE
import Derived.Test.YtgmbjgddelcceaaTPx6
namespace Go.Proofs.Ytgmbjgddelcceaa.P
open Go.RowKit Go.Proofs.YtgmbjgddelcceaaW.PrintWords Go.Proofs.YtgmbjgddelcceaaW.PrintLast Go.Proofs.YtgmbjgddelcceaaW.PrintMore
attribute [local go_sem] max2_int min2_int max_two min_two max_three min_three max_four min_four
attribute [local go_sem high] eqA71
attribute [local go_sem] Oper.semAt_some
set_option linter.unusedVariables false
set_option linter.unusedSimpArgs false
theorem S71.ext2 {a b : S71} (h0 : a.f0 = b.f0) (h1 : a.f1 = b.f1) (h2 : a.f2 = b.f2) (h3 : a.f3 = b.f3) : a = b := by cases a; cases b; simp_all
def MarksOk (B : Nat) (rs : List Nat) (W : World) : Prop := rs.Nodup ∧ ∀ r ∈ rs, B ≤ r ∧ W.heap[r]? = some (.deferred (some []))
theorem MarksOk.keep {B : Nat} {rs : List Nat} {W W' : World} (h : MarksOk B rs W) (hk : ∀ r, B ≤ r → W.heap[r]? = some (.deferred (some [])) → W'.heap[r]? = some (.deferred (some []))) : MarksOk B rs W' :=
  ⟨h.1, fun r hr => ⟨(h.2 r hr).1, hk r (h.2 r hr).1 (h.2 r hr).2⟩⟩
def badPiece (p : S80) (out : List S71) : Bool :=
  p.f0 != (out.length : Int) / 16 || (p.f1 != (out.length : Int) % 16 || (decide (p.f2 ≤ p.f1) || (decide (p.f2 > 16) || decide ((out.length : Int) ≥ 256))))
instance : DecidableEq S71 := fun a b => decidable_of_iff (a.f0 = b.f0 ∧ a.f1 = b.f1 ∧ a.f2 = b.f2 ∧ a.f3 = b.f3) (by cases a; cases b; simp)
instance : DecidableEq S80 := fun a b => decidable_of_iff (a.f0 = b.f0 ∧ a.f1 = b.f1 ∧ a.f2 = b.f2 ∧ a.f3 = b.f3 ∧ a.f4 = b.f4 ∧ a.f5 = b.f5) (by cases a; cases b; simp)
def unpackGo : List S80 → List S71 → Option (List S71)
  | [], out => some out
  | p :: ps, out => if badPiece p out then none else if (pixs p (p.f2 - p.f1).toNat).any badS then none else unpackGo ps (out ++ pixs p (p.f2 - p.f1).toNat)
theorem MarksOk.alloc {B : Nat} {rs : List Nat} {W : World} (h : MarksOk B rs W) (o : Obj) : MarksOk B rs (W.alloc o) := h.keep (fun r _ hr => blk_alloc hr o)
theorem Keep80.grown {A B : World} {row : Option Nat} (hg : A.grownBy B row) (hr : ∀ k, row = some k → ∃ cs t, A.heap[k]? = some (Obj.cells cs t (0, 0)) ∧ t ≠ 80) : Keep80 A B := fun i cs hi => by
  refine (hg.block i (blk_lt hi) (fun e => ?_)).trans hi
  obtain ⟨cs', t, h1, h2⟩ := hr i e.symm
  rw [hi] at h1
  injection h1 with h1
  injection h1 with _ h1
  exact h2 h1.symm
theorem Keep80.set {A : World} {g j : Nat} {u : Value} {cs : Array Value} {t : TypeId} (h : A.heap[g]? = some (.cells cs t (0, 0))) (ht : t ≠ 80) : Keep80 A (A.setCell ⟨g, j, none⟩ u) := fun i cs' hi => by
  refine (Below.heap_setCell A _ u i ?_).trans hi
  show i ≠ g
  rintro rfl
  rw [h] at hi
  injection hi with hi
  injection hi with _ hi
  exact ht hi
end Go.Proofs.Ytgmbjgddelcceaa.P
