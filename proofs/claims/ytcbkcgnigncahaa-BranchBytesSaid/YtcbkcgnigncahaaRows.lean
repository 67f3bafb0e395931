/-
  No cell of these rows narrows 'for every input' (looked for: loops, veiled, ifaces, maps, wideKeys, modest, calm, conditions, laid).
  DERIVED. THE GIVEN ROWS OF THIS SEAT. 6 by the template 'for every input the law returns true; each argument reads behind the call as it read before'; 0 by the template 'total and deterministic' (their statements: YtcbkcgnigncahaaTotals.lean).
  GIVEN WITH THE SEED: the statements are not yours to turn. If you find one false, say at which input.
  Laid BY PROGRAM, IN A SANDBOX (cutbox-rows.mjs): the forced cells as the released guide's own fill.sh prints them over the translation f1954c40059d1bc7… (all of the seat's roots in one cut). By AI agents, Wed Nov 11 2026. No macro, syntax, notation, axiom, sorry.
-/
import Derived.Test.YtcbkcgnigncahaaChecked
import GoSem.Claim
import GoSem.ClaimJoined
import GoSem.ClaimMapViews
import Derived.JoinedTies
import Derived.KernelRfl
namespace Go.Proofs.Ytcbkcgnigncahaa
/- THE CELL 'sum', in the pinned program and in every row, IS THE sha256 OF THE DUMP (.gsa) THAT YtcbkcgnigncahaaProg.lean LOADS. Nothing in Lean hashes anything: it is a label: what it is worth is what the hold of that sum in a sandbox is worth. -/
noncomputable def Try.pinned : Pinned := { name := "ytcbkcgnigncahaa", sum := "f1954c40059d1bc7f7690e09f7bca100a0710cce8ed1347f1156d74d9f069724", checked := Try.checked }
namespace Rows
def none {H : Type} : Left H := { results := [], args := [] }

/-- 'skymosaiclaw31.BranchLimits': WHATEVER THE INPUT: true; the input reads as it did. -/
def branchLimitsSpec : ChangeSpec := { name := "branchLimits", fn := fun _ => fun
  | [d1, d2] => { results := [.lit (.bool true)], args := [d1, d2] }
  | _ => none }
def branchLimitsRow : OpenClaim := { program := "ytcbkcgnigncahaa", sum := "f1954c40059d1bc7f7690e09f7bca100a0710cce8ed1347f1156d74d9f069724", func := "skymosaic/skymosaiclaw31.BranchLimits", spec := "branchLimits", unfollowed := true, recurses := true, apart := false }
def BranchLimitsSaid : Prop := branchLimitsRow.holds Try.pinned (OpenSpec.ofChange branchLimitsSpec)

/-- ITS FALSE NEIGHBOUR: 'it returns false'. Refute it at one input. -/
def branchLimitsWrong : ChangeSpec := { name := "branchLimits", fn := fun _ => fun
  | [d1, d2] => { results := [.lit (.bool false)], args := [d1, d2] }
  | _ => none }
def BranchLimitsWrongFalsely : Prop := branchLimitsRow.holds Try.pinned (OpenSpec.ofChange branchLimitsWrong)

/-- 'skymosaiclaw31.BranchTimes': WHATEVER THE INPUT: true; the input reads as it did. -/
def branchTimesSpec : ChangeSpec := { name := "branchTimes", fn := fun _ => fun
  | [d1, d2, d3, d4] => { results := [.lit (.bool true)], args := [d1, d2, d3, d4] }
  | _ => none }
def branchTimesRow : OpenClaim := { program := "ytcbkcgnigncahaa", sum := "f1954c40059d1bc7f7690e09f7bca100a0710cce8ed1347f1156d74d9f069724", func := "skymosaic/skymosaiclaw31.BranchTimes", spec := "branchTimes", unfollowed := true, recurses := true, apart := false }
def BranchTimesSaid : Prop := branchTimesRow.holds Try.pinned (OpenSpec.ofChange branchTimesSpec)

/-- ITS FALSE NEIGHBOUR: 'it returns false'. Refute it at one input. -/
def branchTimesWrong : ChangeSpec := { name := "branchTimes", fn := fun _ => fun
  | [d1, d2, d3, d4] => { results := [.lit (.bool false)], args := [d1, d2, d3, d4] }
  | _ => none }
def BranchTimesWrongFalsely : Prop := branchTimesRow.holds Try.pinned (OpenSpec.ofChange branchTimesWrong)

/-- 'skymosaiclaw31.BranchRuns': WHATEVER THE INPUT: true; the input reads as it did. -/
def branchRunsSpec : ChangeSpec := { name := "branchRuns", fn := fun _ => fun
  | [d1, d2, d3] => { results := [.lit (.bool true)], args := [d1, d2, d3] }
  | _ => none }
def branchRunsRow : OpenClaim := { program := "ytcbkcgnigncahaa", sum := "f1954c40059d1bc7f7690e09f7bca100a0710cce8ed1347f1156d74d9f069724", func := "skymosaic/skymosaiclaw31.BranchRuns", spec := "branchRuns", unfollowed := true, recurses := true, apart := false }
def BranchRunsSaid : Prop := branchRunsRow.holds Try.pinned (OpenSpec.ofChange branchRunsSpec)

/-- ITS FALSE NEIGHBOUR: 'it returns false'. Refute it at one input. -/
def branchRunsWrong : ChangeSpec := { name := "branchRuns", fn := fun _ => fun
  | [d1, d2, d3] => { results := [.lit (.bool false)], args := [d1, d2, d3] }
  | _ => none }
def BranchRunsWrongFalsely : Prop := branchRunsRow.holds Try.pinned (OpenSpec.ofChange branchRunsWrong)

/-- 'skymosaiclaw31.BranchForks': WHATEVER THE INPUT: true; the input reads as it did. -/
def branchForksSpec : ChangeSpec := { name := "branchForks", fn := fun _ => fun
  | [d1, d2, d3, d4] => { results := [.lit (.bool true)], args := [d1, d2, d3, d4] }
  | _ => none }
def branchForksRow : OpenClaim := { program := "ytcbkcgnigncahaa", sum := "f1954c40059d1bc7f7690e09f7bca100a0710cce8ed1347f1156d74d9f069724", func := "skymosaic/skymosaiclaw31.BranchForks", spec := "branchForks", unfollowed := true, recurses := true, apart := false }
def BranchForksSaid : Prop := branchForksRow.holds Try.pinned (OpenSpec.ofChange branchForksSpec)

/-- ITS FALSE NEIGHBOUR: 'it returns false'. Refute it at one input. -/
def branchForksWrong : ChangeSpec := { name := "branchForks", fn := fun _ => fun
  | [d1, d2, d3, d4] => { results := [.lit (.bool false)], args := [d1, d2, d3, d4] }
  | _ => none }
def BranchForksWrongFalsely : Prop := branchForksRow.holds Try.pinned (OpenSpec.ofChange branchForksWrong)

/-- 'skymosaiclaw31.BranchCopies': WHATEVER THE INPUT: true; the input reads as it did. -/
def branchCopiesSpec : ChangeSpec := { name := "branchCopies", fn := fun _ => fun
  | [d1, d2, d3] => { results := [.lit (.bool true)], args := [d1, d2, d3] }
  | _ => none }
def branchCopiesRow : OpenClaim := { program := "ytcbkcgnigncahaa", sum := "f1954c40059d1bc7f7690e09f7bca100a0710cce8ed1347f1156d74d9f069724", func := "skymosaic/skymosaiclaw31.BranchCopies", spec := "branchCopies", inPlace := ["maps.clone"], unfollowed := true, recurses := true, apart := false }
def BranchCopiesSaid : Prop := branchCopiesRow.holds Try.pinned (OpenSpec.ofChange branchCopiesSpec)

/-- ITS FALSE NEIGHBOUR: 'it returns false'. Refute it at one input. -/
def branchCopiesWrong : ChangeSpec := { name := "branchCopies", fn := fun _ => fun
  | [d1, d2, d3] => { results := [.lit (.bool false)], args := [d1, d2, d3] }
  | _ => none }
def BranchCopiesWrongFalsely : Prop := branchCopiesRow.holds Try.pinned (OpenSpec.ofChange branchCopiesWrong)

/-- 'skymosaiclaw31.BranchBytes': WHATEVER THE INPUT: true; the input reads as it did. -/
def branchBytesSpec : ChangeSpec := { name := "branchBytes", fn := fun _ => fun
  | [d1, d2, d3, d4, d5] => { results := [.lit (.bool true)], args := [d1, d2, d3, d4, d5] }
  | _ => none }
def branchBytesRow : OpenClaim := { program := "ytcbkcgnigncahaa", sum := "f1954c40059d1bc7f7690e09f7bca100a0710cce8ed1347f1156d74d9f069724", func := "skymosaic/skymosaiclaw31.BranchBytes", spec := "branchBytes", unfollowed := true, recurses := true, apart := false }
def BranchBytesSaid : Prop := branchBytesRow.holds Try.pinned (OpenSpec.ofChange branchBytesSpec)

/-- ITS FALSE NEIGHBOUR: 'it returns false'. Refute it at one input. -/
def branchBytesWrong : ChangeSpec := { name := "branchBytes", fn := fun _ => fun
  | [d1, d2, d3, d4, d5] => { results := [.lit (.bool false)], args := [d1, d2, d3, d4, d5] }
  | _ => none }
def BranchBytesWrongFalsely : Prop := branchBytesRow.holds Try.pinned (OpenSpec.ofChange branchBytesWrong)

/- THE SECOND FORM. 'bulk': how many values and letters a reading holds, each counted each time it is reached (what is shared counts as often as it is met; a slice's spare places count too). A statement '..UptoSaid' is the law's where the arguments, and the package variables that the reading takes, are together of bulk at most 1048576: NARROWER than '..Said'. Prove '..Said' where nothing that the law and all that it calls make is longer than what came in: it says more and counts as full. Else prove '..UptoSaid'. A law counts once. -/
mutual
def uptoBulk {H : Type} : DataW H → Nat
  | .lit (.string bytes) => bytes.length + 1
  | .lit _ => 1
  | .nil => 1
  | .ptr d => uptoBulk d + 1
  | .slice elems spare => uptoBulkAll elems + uptoBulkAll spare + 1
  | .agg parts => uptoBulkAll parts + 1
  | .iface _ d => uptoBulk d + 1
  | .map entries => uptoBulkEntries entries + 1
  | .held _ => 1
def uptoBulkAll {H : Type} : List (DataW H) → Nat
  | [] => 0
  | d :: r => uptoBulk d + uptoBulkAll r
def uptoBulkEntries {H : Type} : List (Lit × DataW H) → Nat
  | [] => 0
  | x :: r => uptoBulkEntry x + uptoBulkEntries r
def uptoBulkEntry {H : Type} : Lit × DataW H → Nat
  | (.string bytes, d) => bytes.length + uptoBulk d + 1
  | (_, d) => uptoBulk d + 1
 end
def uptoSmall : (H : Type) → List (DataW H) → Bool := fun _ ds => decide (uptoBulkAll ds ≤ 1048576)
def OpenSpec.upto (s : _root_.Go.ChangeSpec) : _root_.Go.OpenSpec := { _root_.Go.OpenSpec.ofChange s with cond := some uptoSmall }

/-- 'skymosaiclaw31.BranchLimits', WHERE WHAT IT READS IS OF BULK AT MOST 1048576: true; the input reads as it did. -/
def branchLimitsUptoRow : OpenClaim := { program := "ytcbkcgnigncahaa", sum := "f1954c40059d1bc7f7690e09f7bca100a0710cce8ed1347f1156d74d9f069724", func := "skymosaic/skymosaiclaw31.BranchLimits", spec := "branchLimits", unfollowed := true, recurses := true, apart := false, narrowed := true }
def BranchLimitsUptoSaid : Prop := branchLimitsUptoRow.holds Try.pinned (OpenSpec.upto branchLimitsSpec)

/-- 'skymosaiclaw31.BranchTimes', WHERE WHAT IT READS IS OF BULK AT MOST 1048576: true; the input reads as it did. -/
def branchTimesUptoRow : OpenClaim := { program := "ytcbkcgnigncahaa", sum := "f1954c40059d1bc7f7690e09f7bca100a0710cce8ed1347f1156d74d9f069724", func := "skymosaic/skymosaiclaw31.BranchTimes", spec := "branchTimes", unfollowed := true, recurses := true, apart := false, narrowed := true }
def BranchTimesUptoSaid : Prop := branchTimesUptoRow.holds Try.pinned (OpenSpec.upto branchTimesSpec)

/-- 'skymosaiclaw31.BranchRuns', WHERE WHAT IT READS IS OF BULK AT MOST 1048576: true; the input reads as it did. -/
def branchRunsUptoRow : OpenClaim := { program := "ytcbkcgnigncahaa", sum := "f1954c40059d1bc7f7690e09f7bca100a0710cce8ed1347f1156d74d9f069724", func := "skymosaic/skymosaiclaw31.BranchRuns", spec := "branchRuns", unfollowed := true, recurses := true, apart := false, narrowed := true }
def BranchRunsUptoSaid : Prop := branchRunsUptoRow.holds Try.pinned (OpenSpec.upto branchRunsSpec)

/-- 'skymosaiclaw31.BranchForks', WHERE WHAT IT READS IS OF BULK AT MOST 1048576: true; the input reads as it did. -/
def branchForksUptoRow : OpenClaim := { program := "ytcbkcgnigncahaa", sum := "f1954c40059d1bc7f7690e09f7bca100a0710cce8ed1347f1156d74d9f069724", func := "skymosaic/skymosaiclaw31.BranchForks", spec := "branchForks", unfollowed := true, recurses := true, apart := false, narrowed := true }
def BranchForksUptoSaid : Prop := branchForksUptoRow.holds Try.pinned (OpenSpec.upto branchForksSpec)

/-- 'skymosaiclaw31.BranchCopies', WHERE WHAT IT READS IS OF BULK AT MOST 1048576: true; the input reads as it did. -/
def branchCopiesUptoRow : OpenClaim := { program := "ytcbkcgnigncahaa", sum := "f1954c40059d1bc7f7690e09f7bca100a0710cce8ed1347f1156d74d9f069724", func := "skymosaic/skymosaiclaw31.BranchCopies", spec := "branchCopies", inPlace := ["maps.clone"], unfollowed := true, recurses := true, apart := false, narrowed := true }
def BranchCopiesUptoSaid : Prop := branchCopiesUptoRow.holds Try.pinned (OpenSpec.upto branchCopiesSpec)

/-- 'skymosaiclaw31.BranchBytes', WHERE WHAT IT READS IS OF BULK AT MOST 1048576: true; the input reads as it did. -/
def branchBytesUptoRow : OpenClaim := { program := "ytcbkcgnigncahaa", sum := "f1954c40059d1bc7f7690e09f7bca100a0710cce8ed1347f1156d74d9f069724", func := "skymosaic/skymosaiclaw31.BranchBytes", spec := "branchBytes", unfollowed := true, recurses := true, apart := false, narrowed := true }
def BranchBytesUptoSaid : Prop := branchBytesUptoRow.holds Try.pinned (OpenSpec.upto branchBytesSpec)

end Rows
end Go.Proofs.Ytcbkcgnigncahaa
