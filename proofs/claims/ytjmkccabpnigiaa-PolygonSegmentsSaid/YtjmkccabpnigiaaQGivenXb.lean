import Derived.Test.YtjmkccabpnigiaaQGivenXa
namespace Go.Proofs.Ytjmkccabpnigiaa.P
open Go.RowKit Go.Proofs.YtjmkccabpnigiaaW.PrintWords Go.Proofs.YtjmkccabpnigiaaW.PrintLast Go.Proofs.YtjmkccabpnigiaaW.PrintMore
attribute [local go_sem] max2_int min2_int max_two min_two max_three min_three max_four min_four
set_option linter.unusedVariables false
set_option linter.unusedSimpArgs false
open Go.Proofs.YtjmkccabpnigiaaW.PrintLast
/-- The boxes of two fractions and of the result. -/
def FrB (w W : World) (va vb : Array Value) : Prop := W.heap[w.heap.size]? = some (.cells va 45 (0, 0)) ∧ W.heap[w.heap.size + 1]? = some (.cells vb 45 (0, 0)) ∧ W.heap[w.heap.size + 1 + 1]? = some (.cells #[.bool false, .slice none 0 0, .bool false, .slice none 0 0] 45 (0, 0)) ∧ Below w.heap.size w W
theorem FrB.below {w W W' : World} {va vb : Array Value} (h : FrB w W va vb) (hb : Below W.heap.size W W') : FrB w W' va vb := ⟨blk_below h.1 hb, blk_below h.2.1 hb, blk_below h.2.2.1 hb, below_step h.2.2.2 hb⟩
/-- A variable of package wide's type. -/
def Bx (W : World) (g : Nat) (z : Int) : Prop := ∃ (s : Bool) (A : Option Addr) (n c : Nat), W.heap[g]? = some (.cells #[.bool s, .slice A n c] 43 (0, 0)) ∧ WI W (.agg #[.bool s, .slice A n c]) z
theorem Bx.below {W W' : World} {g : Nat} {z : Int} (h : Bx W g z) (hb : Below W.heap.size W W') : Bx W' g z := by
 obtain ⟨s, A, n, c, h1, h2⟩ := h
 exact ⟨s, A, n, c, blk_below h1 hb, h2.below hb⟩
theorem Bx.new {W : World} {s : Bool} {A : Option Addr} {n c : Nat} {z : Int} (h : WI W (.agg #[.bool s, .slice A n c]) z) : Bx (W.alloc (.cells #[.bool s, .slice A n c] 43)) W.heap.size z :=
 ⟨s, A, n, c, blk_new W _, h.below (below_alloc (Below.refl _ _) _)⟩
theorem Bx.parts {W : World} {g : Nat} {z : Int} (h : Bx W g z) : ∃ (s : Bool) (A : Option Addr) (n c : Nat), Aside0 (W.heap[g]? = some (.cells #[.bool s, .slice A n c] 43 (0, 0)) ∧ WI W (.agg #[.bool s, .slice A n c]) z) := by
 obtain ⟨s, A, n, c, h1, h2⟩ := h
 exact ⟨s, A, n, c, ⟨h1, h2⟩⟩
theorem fi_mk {w : World} {s : Bool} {A : Option Addr} {n c : Nat} {s' : Bool} {A' : Option Addr} {n' c' : Nat} {z : Int} (h : WI w (.agg #[.bool s, .slice A n c]) z ∧ WI w (.agg #[.bool s', .slice A' n' c']) 0) : FI w (.agg #[.bool s, .slice A n c, .bool s', .slice A' n' c']) z := ⟨s, A, n, c, s', A', n', c', rfl, h.1, h.2⟩
theorem frb_new (w : World) (va vb : Array Value) : FrB w (((w.alloc (.cells va 45)).alloc (.cells vb 45)).alloc (.cells #[.bool false, .slice none 0 0, .bool false, .slice none 0 0] 45)) va vb := by
 have b3 := blk_new (w.alloc (.cells va 45)) (.cells vb 45)
 have b4 := blk_new ((w.alloc (.cells va 45)).alloc (.cells vb 45)) (.cells #[.bool false, .slice none 0 0, .bool false, .slice none 0 0] 45)
 simp only [World.size_alloc] at b3 b4
 exact ⟨blk_alloc (blk_alloc (blk_new w _) _) _, blk_alloc b3 _, b4, below_alloc (below_alloc (below_alloc (Below.refl _ _) _) _) _⟩
theorem region_at {P : Program} {id : Nat} {ops : Array Oper} {Q : Exit → Act → World → Prop} {a : Act} {w : World} (hm : P.follows .mixedOrders = true) (hord : orderedT (rtab .any ops).2 = true) (Inv : Array Value → List Bool → Act → World → Prop)
    (h0 : Inv a.tmps (List.replicate ops.size false) a w.drew)
    (hstep : ∀ (Q : Exit → Act → World → Prop) (base : Array Value) i o l a' w, ops[i]? = some o → Inv base l a' w → l.getD i true = false → (∀ j ∈ needsOf .any o, l.getD j false = true) →
     (if Region.wanted o (yielded ops a'.tmps) = true then Oper.wp P o a' w (fun a'' w' => Inv base (l.set i true) a'' w') Q else Inv base (l.set i true) (a'.put o.dst undef) w))
    (hdone : ∀ a' w, Inv a.tmps (List.replicate ops.size true) a' w → Q .normal a' w) : (Code.region id ops true).wp P Q a w := region_by hm hord (Inv a.tmps) h0 (hstep Q a.tmps) hdone
/-- One step of an order: what the invariant asks of the operation. -/
def InvStep (I : List Bool → Act → World → Prop) (i : Nat) (o : Oper) (ops : Array Oper) (Q : Exit → Act → World → Prop) (l : List Bool) (a : Act) (w : World) : Prop :=
 if Region.wanted o (yielded ops a.tmps) = true then Oper.wp Try.prog o a w (fun a' w' => I (l.set i true) a' w') Q else I (l.set i true) (a.put o.dst undef) w
end Go.Proofs.Ytjmkccabpnigiaa.P
