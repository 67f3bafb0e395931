/-
  No cell of these rows narrows 'for every input' (looked for: loops, veiled, ifaces, maps, wideKeys, modest, calm, conditions, laid).
  DERIVED. THE GIVEN ROWS OF THIS SEAT. 6 by the template 'for every input the law returns true; each argument reads behind the call as it read before'; 0 by the template 'total and deterministic' (their statements: YtgmbjgddelcceaaTotals.lean).
  GIVEN WITH THE SEED: the statements are not yours to turn. If you find one false, say at which input.
  Laid BY PROGRAM, IN A SANDBOX (cutbox-rows.mjs): the forced cells as the released guide's own fill.sh prints them over the translation 7bafe1a9c11dc29c… (all of the seat's roots in one cut). By AI agents, Wed Nov 11 2026. No macro, syntax, notation, axiom, sorry.
-/
import Derived.Test.YtgmbjgddelcceaaChecked
import GoSem.Claim
import GoSem.ClaimJoined
import GoSem.ClaimMapViews
import Derived.JoinedTies
import Derived.KernelRfl
namespace Go.Proofs.Ytgmbjgddelcceaa
/- THE CELL 'sum', in the pinned program and in every row, IS THE sha256 OF THE DUMP (.gsa) THAT YtgmbjgddelcceaaProg.lean LOADS. Nothing in Lean hashes anything: it is a label: what it is worth is what the hold of that sum in a sandbox is worth. -/
noncomputable def Try.pinned : Pinned := { name := "ytgmbjgddelcceaa", sum := "7bafe1a9c11dc29c2fd63454c8e80e2b7f1a85adfb5251b9b6cb29210b9cae8c", checked := Try.checked }
namespace Rows
def none {H : Type} : Left H := { results := [], args := [] }

/-- 'skymosaiclaw36.ProvPacks': WHATEVER THE INPUT: true; the input reads as it did. -/
def provPacksSpec : ChangeSpec := { name := "provPacks", fn := fun _ => fun
  | [d1, d2, d3, d4] => { results := [.lit (.bool true)], args := [d1, d2, d3, d4] }
  | _ => none }
def provPacksRow : OpenClaim := { program := "ytgmbjgddelcceaa", sum := "7bafe1a9c11dc29c2fd63454c8e80e2b7f1a85adfb5251b9b6cb29210b9cae8c", func := "skymosaic/skymosaiclaw36.ProvPacks", spec := "provPacks", unfollowed := true, recurses := true, apart := false }
def ProvPacksSaid : Prop := provPacksRow.holds Try.pinned (OpenSpec.ofChange provPacksSpec)

/-- ITS FALSE NEIGHBOUR: 'it returns false'. Refute it at one input. -/
def provPacksWrong : ChangeSpec := { name := "provPacks", fn := fun _ => fun
  | [d1, d2, d3, d4] => { results := [.lit (.bool false)], args := [d1, d2, d3, d4] }
  | _ => none }
def ProvPacksWrongFalsely : Prop := provPacksRow.holds Try.pinned (OpenSpec.ofChange provPacksWrong)

/-- 'skymosaiclaw36.ProvQueries': WHATEVER THE INPUT: true; the input reads as it did. -/
def provQueriesSpec : ChangeSpec := { name := "provQueries", fn := fun _ => fun
  | [d1, d2, d3, d4] => { results := [.lit (.bool true)], args := [d1, d2, d3, d4] }
  | _ => none }
def provQueriesRow : OpenClaim := { program := "ytgmbjgddelcceaa", sum := "7bafe1a9c11dc29c2fd63454c8e80e2b7f1a85adfb5251b9b6cb29210b9cae8c", func := "skymosaic/skymosaiclaw36.ProvQueries", spec := "provQueries", unfollowed := true, recurses := true, apart := false }
def ProvQueriesSaid : Prop := provQueriesRow.holds Try.pinned (OpenSpec.ofChange provQueriesSpec)

/-- ITS FALSE NEIGHBOUR: 'it returns false'. Refute it at one input. -/
def provQueriesWrong : ChangeSpec := { name := "provQueries", fn := fun _ => fun
  | [d1, d2, d3, d4] => { results := [.lit (.bool false)], args := [d1, d2, d3, d4] }
  | _ => none }
def ProvQueriesWrongFalsely : Prop := provQueriesRow.holds Try.pinned (OpenSpec.ofChange provQueriesWrong)

/-- 'skymosaiclaw36.ProvForms': WHATEVER THE INPUT: true; the input reads as it did. -/
def provFormsSpec : ChangeSpec := { name := "provForms", fn := fun _ => fun
  | [d1, d2, d3, d4, d5] => { results := [.lit (.bool true)], args := [d1, d2, d3, d4, d5] }
  | _ => none }
def provFormsRow : OpenClaim := { program := "ytgmbjgddelcceaa", sum := "7bafe1a9c11dc29c2fd63454c8e80e2b7f1a85adfb5251b9b6cb29210b9cae8c", func := "skymosaic/skymosaiclaw36.ProvForms", spec := "provForms", unfollowed := true, recurses := true, apart := false }
def ProvFormsSaid : Prop := provFormsRow.holds Try.pinned (OpenSpec.ofChange provFormsSpec)

/-- ITS FALSE NEIGHBOUR: 'it returns false'. Refute it at one input. -/
def provFormsWrong : ChangeSpec := { name := "provForms", fn := fun _ => fun
  | [d1, d2, d3, d4, d5] => { results := [.lit (.bool false)], args := [d1, d2, d3, d4, d5] }
  | _ => none }
def ProvFormsWrongFalsely : Prop := provFormsRow.holds Try.pinned (OpenSpec.ofChange provFormsWrong)

/-- 'skymosaiclaw36.ProvBytes': WHATEVER THE INPUT: true; the input reads as it did. -/
def provBytesSpec : ChangeSpec := { name := "provBytes", fn := fun _ => fun
  | [d1, d2, d3, d4] => { results := [.lit (.bool true)], args := [d1, d2, d3, d4] }
  | _ => none }
def provBytesRow : OpenClaim := { program := "ytgmbjgddelcceaa", sum := "7bafe1a9c11dc29c2fd63454c8e80e2b7f1a85adfb5251b9b6cb29210b9cae8c", func := "skymosaic/skymosaiclaw36.ProvBytes", spec := "provBytes", unfollowed := true, recurses := true, apart := false }
def ProvBytesSaid : Prop := provBytesRow.holds Try.pinned (OpenSpec.ofChange provBytesSpec)

/-- ITS FALSE NEIGHBOUR: 'it returns false'. Refute it at one input. -/
def provBytesWrong : ChangeSpec := { name := "provBytes", fn := fun _ => fun
  | [d1, d2, d3, d4] => { results := [.lit (.bool false)], args := [d1, d2, d3, d4] }
  | _ => none }
def ProvBytesWrongFalsely : Prop := provBytesRow.holds Try.pinned (OpenSpec.ofChange provBytesWrong)

/-- 'skymosaiclaw36.ProvCounts': WHATEVER THE INPUT: true; the input reads as it did. -/
def provCountsSpec : ChangeSpec := { name := "provCounts", fn := fun _ => fun
  | [d1, d2] => { results := [.lit (.bool true)], args := [d1, d2] }
  | _ => none }
def provCountsRow : OpenClaim := { program := "ytgmbjgddelcceaa", sum := "7bafe1a9c11dc29c2fd63454c8e80e2b7f1a85adfb5251b9b6cb29210b9cae8c", func := "skymosaic/skymosaiclaw36.ProvCounts", spec := "provCounts", unfollowed := true, recurses := true, apart := false }
def ProvCountsSaid : Prop := provCountsRow.holds Try.pinned (OpenSpec.ofChange provCountsSpec)

/-- ITS FALSE NEIGHBOUR: 'it returns false'. Refute it at one input. -/
def provCountsWrong : ChangeSpec := { name := "provCounts", fn := fun _ => fun
  | [d1, d2] => { results := [.lit (.bool false)], args := [d1, d2] }
  | _ => none }
def ProvCountsWrongFalsely : Prop := provCountsRow.holds Try.pinned (OpenSpec.ofChange provCountsWrong)

/-- 'skymosaiclaw36.ProvAny': WHATEVER THE INPUT: true; the input reads as it did. -/
def provAnySpec : ChangeSpec := { name := "provAny", fn := fun _ => fun
  | [d1, d2, d3, d4] => { results := [.lit (.bool true)], args := [d1, d2, d3, d4] }
  | _ => none }
def provAnyRow : OpenClaim := { program := "ytgmbjgddelcceaa", sum := "7bafe1a9c11dc29c2fd63454c8e80e2b7f1a85adfb5251b9b6cb29210b9cae8c", func := "skymosaic/skymosaiclaw36.ProvAny", spec := "provAny", unfollowed := true, recurses := true, apart := false }
def ProvAnySaid : Prop := provAnyRow.holds Try.pinned (OpenSpec.ofChange provAnySpec)

/-- ITS FALSE NEIGHBOUR: 'it returns false'. Refute it at one input. -/
def provAnyWrong : ChangeSpec := { name := "provAny", fn := fun _ => fun
  | [d1, d2, d3, d4] => { results := [.lit (.bool false)], args := [d1, d2, d3, d4] }
  | _ => none }
def ProvAnyWrongFalsely : Prop := provAnyRow.holds Try.pinned (OpenSpec.ofChange provAnyWrong)

/- THE SECOND FORM. 'bulk': how many values and letters a reading holds, each counted each time it is reached (what is shared counts as often as it is met; a slice's spare places count too). A statement '..UptoSaid' is the law's where the arguments, and the package variables that the reading takes, are together of bulk at most 1048576: NARROWER than '..Said'. Prove '..Said' where nothing that the law and all that it calls make is longer than what came in: it says more and counts as full. Else prove '..UptoSaid'. A law counts once. -/
mutual
def uptoBulk {H : Type} : DataW H → Nat
  | .lit (.string bytes) => bytes.length + 1
  | .lit _ => 1
  | .nil => 1
  | .ptr d => uptoBulk d + 1
  | .slice elems spare => uptoBulkAll elems + uptoBulkAll spare + 1
  | .agg parts => uptoBulkAll parts + 1
  | .iface _ d => uptoBulk d + 1
  | .map entries => uptoBulkEntries entries + 1
  | .held _ => 1
def uptoBulkAll {H : Type} : List (DataW H) → Nat
  | [] => 0
  | d :: r => uptoBulk d + uptoBulkAll r
def uptoBulkEntries {H : Type} : List (Lit × DataW H) → Nat
  | [] => 0
  | x :: r => uptoBulkEntry x + uptoBulkEntries r
def uptoBulkEntry {H : Type} : Lit × DataW H → Nat
  | (.string bytes, d) => bytes.length + uptoBulk d + 1
  | (_, d) => uptoBulk d + 1
 end
def uptoSmall : (H : Type) → List (DataW H) → Bool := fun _ ds => decide (uptoBulkAll ds ≤ 1048576)
def OpenSpec.upto (s : _root_.Go.ChangeSpec) : _root_.Go.OpenSpec := { _root_.Go.OpenSpec.ofChange s with cond := some uptoSmall }

/-- 'skymosaiclaw36.ProvPacks', WHERE WHAT IT READS IS OF BULK AT MOST 1048576: true; the input reads as it did. -/
def provPacksUptoRow : OpenClaim := { program := "ytgmbjgddelcceaa", sum := "7bafe1a9c11dc29c2fd63454c8e80e2b7f1a85adfb5251b9b6cb29210b9cae8c", func := "skymosaic/skymosaiclaw36.ProvPacks", spec := "provPacks", unfollowed := true, recurses := true, apart := false, narrowed := true }
def ProvPacksUptoSaid : Prop := provPacksUptoRow.holds Try.pinned (OpenSpec.upto provPacksSpec)

/-- 'skymosaiclaw36.ProvQueries', WHERE WHAT IT READS IS OF BULK AT MOST 1048576: true; the input reads as it did. -/
def provQueriesUptoRow : OpenClaim := { program := "ytgmbjgddelcceaa", sum := "7bafe1a9c11dc29c2fd63454c8e80e2b7f1a85adfb5251b9b6cb29210b9cae8c", func := "skymosaic/skymosaiclaw36.ProvQueries", spec := "provQueries", unfollowed := true, recurses := true, apart := false, narrowed := true }
def ProvQueriesUptoSaid : Prop := provQueriesUptoRow.holds Try.pinned (OpenSpec.upto provQueriesSpec)

/-- 'skymosaiclaw36.ProvForms', WHERE WHAT IT READS IS OF BULK AT MOST 1048576: true; the input reads as it did. -/
def provFormsUptoRow : OpenClaim := { program := "ytgmbjgddelcceaa", sum := "7bafe1a9c11dc29c2fd63454c8e80e2b7f1a85adfb5251b9b6cb29210b9cae8c", func := "skymosaic/skymosaiclaw36.ProvForms", spec := "provForms", unfollowed := true, recurses := true, apart := false, narrowed := true }
def ProvFormsUptoSaid : Prop := provFormsUptoRow.holds Try.pinned (OpenSpec.upto provFormsSpec)

/-- 'skymosaiclaw36.ProvBytes', WHERE WHAT IT READS IS OF BULK AT MOST 1048576: true; the input reads as it did. -/
def provBytesUptoRow : OpenClaim := { program := "ytgmbjgddelcceaa", sum := "7bafe1a9c11dc29c2fd63454c8e80e2b7f1a85adfb5251b9b6cb29210b9cae8c", func := "skymosaic/skymosaiclaw36.ProvBytes", spec := "provBytes", unfollowed := true, recurses := true, apart := false, narrowed := true }
def ProvBytesUptoSaid : Prop := provBytesUptoRow.holds Try.pinned (OpenSpec.upto provBytesSpec)

/-- 'skymosaiclaw36.ProvCounts', WHERE WHAT IT READS IS OF BULK AT MOST 1048576: true; the input reads as it did. -/
def provCountsUptoRow : OpenClaim := { program := "ytgmbjgddelcceaa", sum := "7bafe1a9c11dc29c2fd63454c8e80e2b7f1a85adfb5251b9b6cb29210b9cae8c", func := "skymosaic/skymosaiclaw36.ProvCounts", spec := "provCounts", unfollowed := true, recurses := true, apart := false, narrowed := true }
def ProvCountsUptoSaid : Prop := provCountsUptoRow.holds Try.pinned (OpenSpec.upto provCountsSpec)

/-- 'skymosaiclaw36.ProvAny', WHERE WHAT IT READS IS OF BULK AT MOST 1048576: true; the input reads as it did. -/
def provAnyUptoRow : OpenClaim := { program := "ytgmbjgddelcceaa", sum := "7bafe1a9c11dc29c2fd63454c8e80e2b7f1a85adfb5251b9b6cb29210b9cae8c", func := "skymosaic/skymosaiclaw36.ProvAny", spec := "provAny", unfollowed := true, recurses := true, apart := false, narrowed := true }
def ProvAnyUptoSaid : Prop := provAnyUptoRow.holds Try.pinned (OpenSpec.upto provAnySpec)

end Rows
end Go.Proofs.Ytgmbjgddelcceaa
