import Derived.Test.YtgmbjgddelcceaaTPx9
import Derived.Lib.SliceRun
namespace Go.Proofs.Ytgmbjgddelcceaa.P
open Go.RowKit Go.Proofs.YtgmbjgddelcceaaW.PrintWords Go.Proofs.YtgmbjgddelcceaaW.PrintLast Go.Proofs.YtgmbjgddelcceaaW.PrintMore
attribute [local go_sem] max2_int min2_int max_two min_two max_three min_three max_four min_four
attribute [local go_sem] Go.Lib.run_eql_slice_nil
set_option linter.unusedVariables false
set_option linter.unusedSimpArgs false
/-- The writer at g has these bytes. -/
def WS (base g : Nat) (bs : List Int) (W : World) : Prop :=
  base ≤ g ∧ ∃ v, W.heap[g]? = some (.cells #[v] 58 (0, 0)) ∧ Kd.R (Kd.int .u8) 5 W base (fun k => k ≠ g) v bs
/-- Blocks of other types than bytes stay as they are, but for g's. -/
def KeepTy (g : Nat) (w w' : World) : Prop := ∀ (k : Nat) (cs : Array Value) (t : TypeId), w.heap[k]? = some (.cells cs t (0, 0)) → t ≠ 5 → k ≠ g → w'.heap[k]? = some (.cells cs t (0, 0))
theorem KeepTy.refl (g : Nat) (w : World) : KeepTy g w w := fun _ _ _ h _ _ => h
theorem KeepTy.trans {g : Nat} {w w1 w2 : World} (h : KeepTy g w w1) (k : KeepTy g w1 w2) : KeepTy g w w2 := fun i cs t hi ht hg => k i cs t (h i cs t hi ht hg) ht hg
theorem KeepTy.alloc {g : Nat} {w w1 : World} (h : KeepTy g w w1) (o : Obj) : KeepTy g w (w1.alloc o) := fun i cs t hi ht hg => blk_alloc (h i cs t hi ht hg) o
theorem KeepTy.set {g : Nat} {w w1 : World} (h : KeepTy g w w1) (u : Value) : KeepTy g w (w1.setCell ⟨g, 0, none⟩ u) := fun i cs t hi ht hg => blk_far (h i cs t hi ht hg) (by simpa using hg) u
theorem KeepTy.grown {g : Nat} {w w1 w2 : World} {base : Nat} {ok : Nat → Prop} {v : Value} {bs : List Int} (h : KeepTy g w w1) (hR : Kd.R (Kd.int .u8) 5 w1 base ok v bs) (hg : w1.grownBy w2 v.ownBlock) : KeepTy g w w2 := fun i cs t hi ht hgi =>
  blk_grown (h i cs t hi ht hgi) hg (Kd.R_ne hR (h i cs t hi ht hgi) (fun e => ht e.symm))
theorem KeepTy.below {g : Nat} {w w1 : World} (h : Below w.heap.size w w1) : KeepTy g w w1 := fun i cs t hi ht hg => blk_below hi h
theorem WS.drawn {base g : Nat} {bs : List Int} {W : World} (h : WS base g bs W) (n : Nat) : WS base g bs (W.drewN n) := by
  obtain ⟨h0, v, h1, h2⟩ := h
  exact ⟨h0, v, blk_drewN h1 n, Kd.R_drewN h2 n⟩
theorem WS.below {base g : Nat} {bs : List Int} {W W' : World} (h : WS base g bs W) (hb : Below W.heap.size W W') : WS base g bs W' := by
  obtain ⟨h0, v, h1, h2⟩ := h
  exact ⟨h0, v, blk_below h1 hb, Kd.R_below h2 hb⟩
theorem WS.put {base g : Nat} {bs : List Int} {W : World} {v1 v : Value} (h0 : base ≤ g) (hg : W.heap[g]? = some (.cells #[v] 58 (0, 0))) (hR : Kd.R (Kd.int .u8) 5 W base (fun k => k ≠ g) v1 bs) : WS base g bs (W.setCell ⟨g, 0, none⟩ v1) :=
  ⟨h0, v1, blk_put hg 0 v1 rfl, Kd.R_keep hR ((KeepBut.refl W g none).set_ 0 v1) (fun _ h => h)⟩
end Go.Proofs.Ytgmbjgddelcceaa.P
