import Derived.Test.YtjmkccabpnigiaaQPolyH
import Derived.Test.YtjmkccabpnigiaaQPolyF
namespace Go.Proofs.Ytjmkccabpnigiaa.P
open Go.RowKit Go.Proofs.YtjmkccabpnigiaaW.PrintWords Go.Proofs.YtjmkccabpnigiaaW.PrintLast Go.Proofs.YtjmkccabpnigiaaW.PrintMore
attribute [local go_sem] max2_int min2_int max_two min_two max_three min_three max_four min_four
set_option linter.unusedVariables false
set_option linter.unusedSimpArgs false
attribute [local go_sem] Oper.semAt_some
def crossE (x y : Nat × S26 × S26) : Bool := crossP x.2.1 x.2.2 y.2.1 y.2.2
def NoX (x : Nat × S26 × S26) (l : List (Nat × S26 × S26)) : Prop := ∀ y ∈ l, crossE x y = false
def HasX (x : Nat × S26 × S26) (l : List (Nat × S26 × S26)) : Prop := ∃ y ∈ l, crossE x y = true
def NoXX (l m : List (Nat × S26 × S26)) : Prop := ∀ x ∈ l, NoX x m
def HasXX (l m : List (Nat × S26 × S26)) : Prop := ∃ x ∈ l, HasX x m
theorem NoX.nil (x : Nat × S26 × S26) : NoX x [] := fun y h => by cases h
theorem NoX.snoc {x y : Nat × S26 × S26} {l : List (Nat × S26 × S26)} (h : NoX x l) (hy : crossE x y = false) : NoX x (l ++ [y]) := fun z hz => by
 rcases List.mem_append.1 hz with h1 | h1
 ·exact h z h1
 ·rw [List.mem_singleton.1 h1]; exact hy
theorem HasX.last {x y : Nat × S26 × S26} {l : List (Nat × S26 × S26)} (hy : crossE x y = true) : HasX x (l ++ [y]) := ⟨y, List.mem_append.2 (.inr (List.mem_singleton.2 rfl)), hy⟩
theorem HasX.pre {x : Nat × S26 × S26} {l m : List (Nat × S26 × S26)} (h : HasX x l) (hp : l <+: m) : HasX x m := by
 obtain ⟨y, hy, hc⟩ := h
 exact ⟨y, hp.subset hy, hc⟩
theorem NoXX.nil (m : List (Nat × S26 × S26)) : NoXX [] m := fun y h => by cases h
theorem NoXX.snoc {l m : List (Nat × S26 × S26)} {x : Nat × S26 × S26} (h : NoXX l m) (hx : NoX x m) : NoXX (l ++ [x]) m := fun z hz => by
 rcases List.mem_append.1 hz with h1 | h1
 ·exact h z h1
 ·rw [List.mem_singleton.1 h1]; exact hx
theorem HasXX.last {l m : List (Nat × S26 × S26)} {x : Nat × S26 × S26} (hx : HasX x m) : HasXX (l ++ [x]) m := ⟨x, List.mem_append.2 (.inr (List.mem_singleton.2 rfl)), hx⟩
theorem boxed_eq {W W' : World} {B t : Nat} {v : Value} (h : Boxed W B t v) (h' : Boxed W' B t v) : W'.heap[B]? = W.heap[B]? := (show W'.heap[B]? = some _ from h').trans (show W.heap[B]? = some _ from h).symm
theorem three_new (w : World) (o1 o2 o3 : Obj) : ((w.alloc o1).alloc o2).alloc o3 = ((w.alloc o1).alloc o2).alloc o3 ∧ (((w.alloc o1).alloc o2).alloc o3).heap[w.heap.size]? = some o1 ∧ (((w.alloc o1).alloc o2).alloc o3).heap[w.heap.size + 1]? = some o2 ∧ (((w.alloc o1).alloc o2).alloc o3).heap[w.heap.size + 1 + 1]? = some o3 := by
 have h1 := World.alloc_heap_new w o1
 have h2 := World.alloc_heap_new (w.alloc o1) o2
 have h3 := World.alloc_heap_new ((w.alloc o1).alloc o2) o3
 simp only [World.size_alloc] at h2 h3
 have k : ∀ (W : World) (o : Obj) (g : Nat) (x : Obj), W.heap[g]? = some x → (W.alloc o).heap[g]? = some x := fun W o g x hx => (Below.heap_alloc W o g (Array.getElem?_eq_some_iff.1 hx).1).trans hx
 exact ⟨rfl, k _ _ _ _ (k _ _ _ _ h1), k _ _ _ _ h2, h3⟩
end Go.Proofs.Ytjmkccabpnigiaa.P
