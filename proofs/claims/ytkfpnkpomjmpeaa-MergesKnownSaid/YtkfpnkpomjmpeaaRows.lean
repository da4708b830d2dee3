/-
  No cell of these rows narrows 'for every input' (looked for: loops, veiled, ifaces, maps, wideKeys, modest, calm, conditions, laid).
  DERIVED. THE GIVEN ROWS OF THIS SEAT. 8 by the template 'for every input the law returns true; each argument reads behind the call as it read before'; 0 by the template 'total and deterministic' (their statements: YtkfpnkpomjmpeaaTotals.lean).
  GIVEN WITH THE SEED: the statements are not yours to turn. If you find one false, say at which input.
  Laid BY PROGRAM, IN A SANDBOX (cutbox-rows.mjs): the forced cells as the released guide's own fill.sh prints them over the translation edbf60083fef291d… (all of the seat's roots in one cut). By AI agents, Wed Nov 11 2026. No macro, syntax, notation, axiom, sorry.
-/
import Derived.Test.YtkfpnkpomjmpeaaChecked
import GoSem.Claim
import GoSem.ClaimJoined
import GoSem.ClaimMapViews
import Derived.JoinedTies
import Derived.KernelRfl
namespace Go.Proofs.Ytkfpnkpomjmpeaa
/- THE CELL 'sum', in the pinned program and in every row, IS THE sha256 OF THE DUMP (.gsa) THAT YtkfpnkpomjmpeaaProg.lean LOADS. Nothing in Lean hashes anything: it is a label: what it is worth is what the hold of that sum in a sandbox is worth. -/
noncomputable def Try.pinned : Pinned := { name := "ytkfpnkpomjmpeaa", sum := "edbf60083fef291d7396f4acdf9a96cbb1778ca5fa4c6f40d057ca33f0c66334", checked := Try.checked }
namespace Rows
def none {H : Type} : Left H := { results := [], args := [] }

/-- 'gauntletlaw35.MergesCompatible': WHATEVER THE INPUT: true; the input reads as it did. -/
def mergesCompatibleSpec : ChangeSpec := { name := "mergesCompatible", fn := fun _ => fun
  | [d1, d2, d3] => { results := [.lit (.bool true)], args := [d1, d2, d3] }
  | _ => none }
def mergesCompatibleRow : OpenClaim := { program := "ytkfpnkpomjmpeaa", sum := "edbf60083fef291d7396f4acdf9a96cbb1778ca5fa4c6f40d057ca33f0c66334", func := "gauntlet/gauntletlaw35.MergesCompatible", spec := "mergesCompatible", unfollowed := true, recurses := true, apart := false }
def MergesCompatibleSaid : Prop := mergesCompatibleRow.holds Try.pinned (OpenSpec.ofChange mergesCompatibleSpec)

/-- ITS FALSE NEIGHBOUR: 'it returns false'. Refute it at one input. -/
def mergesCompatibleWrong : ChangeSpec := { name := "mergesCompatible", fn := fun _ => fun
  | [d1, d2, d3] => { results := [.lit (.bool false)], args := [d1, d2, d3] }
  | _ => none }
def MergesCompatibleWrongFalsely : Prop := mergesCompatibleRow.holds Try.pinned (OpenSpec.ofChange mergesCompatibleWrong)

/-- 'gauntletlaw35.MergesFold': WHATEVER THE INPUT: true; the input reads as it did. -/
def mergesFoldSpec : ChangeSpec := { name := "mergesFold", fn := fun _ => fun
  | [d1, d2, d3] => { results := [.lit (.bool true)], args := [d1, d2, d3] }
  | _ => none }
def mergesFoldRow : OpenClaim := { program := "ytkfpnkpomjmpeaa", sum := "edbf60083fef291d7396f4acdf9a96cbb1778ca5fa4c6f40d057ca33f0c66334", func := "gauntlet/gauntletlaw35.MergesFold", spec := "mergesFold", unfollowed := true, recurses := true, apart := false }
def MergesFoldSaid : Prop := mergesFoldRow.holds Try.pinned (OpenSpec.ofChange mergesFoldSpec)

/-- ITS FALSE NEIGHBOUR: 'it returns false'. Refute it at one input. -/
def mergesFoldWrong : ChangeSpec := { name := "mergesFold", fn := fun _ => fun
  | [d1, d2, d3] => { results := [.lit (.bool false)], args := [d1, d2, d3] }
  | _ => none }
def MergesFoldWrongFalsely : Prop := mergesFoldRow.holds Try.pinned (OpenSpec.ofChange mergesFoldWrong)

/-- 'gauntletlaw35.MergesMerge': WHATEVER THE INPUT: true; the input reads as it did. -/
def mergesMergeSpec : ChangeSpec := { name := "mergesMerge", fn := fun _ => fun
  | [d] => { results := [.lit (.bool true)], args := [d] }
  | _ => none }
def mergesMergeRow : OpenClaim := { program := "ytkfpnkpomjmpeaa", sum := "edbf60083fef291d7396f4acdf9a96cbb1778ca5fa4c6f40d057ca33f0c66334", func := "gauntlet/gauntletlaw35.MergesMerge", spec := "mergesMerge", unfollowed := true, recurses := true, apart := false }
def MergesMergeSaid : Prop := mergesMergeRow.holds Try.pinned (OpenSpec.ofChange mergesMergeSpec)

/-- ITS FALSE NEIGHBOUR: 'it returns false'. Refute it at one input. -/
def mergesMergeWrong : ChangeSpec := { name := "mergesMerge", fn := fun _ => fun
  | [d] => { results := [.lit (.bool false)], args := [d] }
  | _ => none }
def MergesMergeWrongFalsely : Prop := mergesMergeRow.holds Try.pinned (OpenSpec.ofChange mergesMergeWrong)

/-- 'gauntletlaw35.MergesFits': WHATEVER THE INPUT: true; the input reads as it did. -/
def mergesFitsSpec : ChangeSpec := { name := "mergesFits", fn := fun _ => fun
  | [d1, d2] => { results := [.lit (.bool true)], args := [d1, d2] }
  | _ => none }
def mergesFitsRow : OpenClaim := { program := "ytkfpnkpomjmpeaa", sum := "edbf60083fef291d7396f4acdf9a96cbb1778ca5fa4c6f40d057ca33f0c66334", func := "gauntlet/gauntletlaw35.MergesFits", spec := "mergesFits", unfollowed := true, recurses := true, apart := false }
def MergesFitsSaid : Prop := mergesFitsRow.holds Try.pinned (OpenSpec.ofChange mergesFitsSpec)

/-- ITS FALSE NEIGHBOUR: 'it returns false'. Refute it at one input. -/
def mergesFitsWrong : ChangeSpec := { name := "mergesFits", fn := fun _ => fun
  | [d1, d2] => { results := [.lit (.bool false)], args := [d1, d2] }
  | _ => none }
def MergesFitsWrongFalsely : Prop := mergesFitsRow.holds Try.pinned (OpenSpec.ofChange mergesFitsWrong)

/-- 'gauntletlaw35.MergesLeast': WHATEVER THE INPUT: true; the input reads as it did. -/
def mergesLeastSpec : ChangeSpec := { name := "mergesLeast", fn := fun _ => fun
  | [d1, d2] => { results := [.lit (.bool true)], args := [d1, d2] }
  | _ => none }
def mergesLeastRow : OpenClaim := { program := "ytkfpnkpomjmpeaa", sum := "edbf60083fef291d7396f4acdf9a96cbb1778ca5fa4c6f40d057ca33f0c66334", func := "gauntlet/gauntletlaw35.MergesLeast", spec := "mergesLeast", unfollowed := true, recurses := true, apart := false }
def MergesLeastSaid : Prop := mergesLeastRow.holds Try.pinned (OpenSpec.ofChange mergesLeastSpec)

/-- ITS FALSE NEIGHBOUR: 'it returns false'. Refute it at one input. -/
def mergesLeastWrong : ChangeSpec := { name := "mergesLeast", fn := fun _ => fun
  | [d1, d2] => { results := [.lit (.bool false)], args := [d1, d2] }
  | _ => none }
def MergesLeastWrongFalsely : Prop := mergesLeastRow.holds Try.pinned (OpenSpec.ofChange mergesLeastWrong)

/-- 'gauntletlaw35.MergesFew': WHATEVER THE INPUT: true; the input reads as it did. -/
def mergesFewSpec : ChangeSpec := { name := "mergesFew", fn := fun _ => fun
  | [d] => { results := [.lit (.bool true)], args := [d] }
  | _ => none }
def mergesFewRow : OpenClaim := { program := "ytkfpnkpomjmpeaa", sum := "edbf60083fef291d7396f4acdf9a96cbb1778ca5fa4c6f40d057ca33f0c66334", func := "gauntlet/gauntletlaw35.MergesFew", spec := "mergesFew", unfollowed := true, recurses := true, apart := false }
def MergesFewSaid : Prop := mergesFewRow.holds Try.pinned (OpenSpec.ofChange mergesFewSpec)

/-- ITS FALSE NEIGHBOUR: 'it returns false'. Refute it at one input. -/
def mergesFewWrong : ChangeSpec := { name := "mergesFew", fn := fun _ => fun
  | [d] => { results := [.lit (.bool false)], args := [d] }
  | _ => none }
def MergesFewWrongFalsely : Prop := mergesFewRow.holds Try.pinned (OpenSpec.ofChange mergesFewWrong)

/-- 'gauntletlaw35.MergesErrors': WHATEVER THE INPUT: true; the input reads as it did. -/
def mergesErrorsSpec : ChangeSpec := { name := "mergesErrors", fn := fun _ => fun
  | [d1, d2, d3] => { results := [.lit (.bool true)], args := [d1, d2, d3] }
  | _ => none }
def mergesErrorsRow : OpenClaim := { program := "ytkfpnkpomjmpeaa", sum := "edbf60083fef291d7396f4acdf9a96cbb1778ca5fa4c6f40d057ca33f0c66334", func := "gauntlet/gauntletlaw35.MergesErrors", spec := "mergesErrors", unfollowed := true, recurses := true, apart := false }
def MergesErrorsSaid : Prop := mergesErrorsRow.holds Try.pinned (OpenSpec.ofChange mergesErrorsSpec)

/-- ITS FALSE NEIGHBOUR: 'it returns false'. Refute it at one input. -/
def mergesErrorsWrong : ChangeSpec := { name := "mergesErrors", fn := fun _ => fun
  | [d1, d2, d3] => { results := [.lit (.bool false)], args := [d1, d2, d3] }
  | _ => none }
def MergesErrorsWrongFalsely : Prop := mergesErrorsRow.holds Try.pinned (OpenSpec.ofChange mergesErrorsWrong)

/-- 'gauntletlaw35.MergesKnown': WHATEVER THE INPUT: true; the input reads as it did. -/
def mergesKnownSpec : ChangeSpec := { name := "mergesKnown", fn := fun _ => fun
  | [] => { results := [.lit (.bool true)], args := [] }
  | _ => none }
def mergesKnownRow : OpenClaim := { program := "ytkfpnkpomjmpeaa", sum := "edbf60083fef291d7396f4acdf9a96cbb1778ca5fa4c6f40d057ca33f0c66334", func := "gauntlet/gauntletlaw35.MergesKnown", spec := "mergesKnown", unfollowed := true, recurses := true, apart := false }
def MergesKnownSaid : Prop := mergesKnownRow.holds Try.pinned (OpenSpec.ofChange mergesKnownSpec)

/-- ITS FALSE NEIGHBOUR: 'it returns false'. Refute it at one input. -/
def mergesKnownWrong : ChangeSpec := { name := "mergesKnown", fn := fun _ => fun
  | [] => { results := [.lit (.bool false)], args := [] }
  | _ => none }
def MergesKnownWrongFalsely : Prop := mergesKnownRow.holds Try.pinned (OpenSpec.ofChange mergesKnownWrong)

/- THE SECOND FORM. 'bulk': how many values and letters a reading holds, each counted each time it is reached (what is shared counts as often as it is met; a slice's spare places count too). A statement '..UptoSaid' is the law's where the arguments, and the package variables that the reading takes, are together of bulk at most 1048576: NARROWER than '..Said'. Prove '..Said' where nothing that the law and all that it calls make is longer than what came in: it says more and counts as full. Else prove '..UptoSaid'. A law counts once. -/
mutual
def uptoBulk {H : Type} : DataW H → Nat
  | .lit (.string bytes) => bytes.length + 1
  | .lit _ => 1
  | .nil => 1
  | .ptr d => uptoBulk d + 1
  | .slice elems spare => uptoBulkAll elems + uptoBulkAll spare + 1
  | .agg parts => uptoBulkAll parts + 1
  | .iface _ d => uptoBulk d + 1
  | .map entries => uptoBulkEntries entries + 1
  | .held _ => 1
def uptoBulkAll {H : Type} : List (DataW H) → Nat
  | [] => 0
  | d :: r => uptoBulk d + uptoBulkAll r
def uptoBulkEntries {H : Type} : List (Lit × DataW H) → Nat
  | [] => 0
  | x :: r => uptoBulkEntry x + uptoBulkEntries r
def uptoBulkEntry {H : Type} : Lit × DataW H → Nat
  | (.string bytes, d) => bytes.length + uptoBulk d + 1
  | (_, d) => uptoBulk d + 1
 end
def uptoSmall : (H : Type) → List (DataW H) → Bool := fun _ ds => decide (uptoBulkAll ds ≤ 1048576)
def OpenSpec.upto (s : _root_.Go.ChangeSpec) : _root_.Go.OpenSpec := { _root_.Go.OpenSpec.ofChange s with cond := some uptoSmall }

/-- 'gauntletlaw35.MergesCompatible', WHERE WHAT IT READS IS OF BULK AT MOST 1048576: true; the input reads as it did. -/
def mergesCompatibleUptoRow : OpenClaim := { program := "ytkfpnkpomjmpeaa", sum := "edbf60083fef291d7396f4acdf9a96cbb1778ca5fa4c6f40d057ca33f0c66334", func := "gauntlet/gauntletlaw35.MergesCompatible", spec := "mergesCompatible", unfollowed := true, recurses := true, apart := false, narrowed := true }
def MergesCompatibleUptoSaid : Prop := mergesCompatibleUptoRow.holds Try.pinned (OpenSpec.upto mergesCompatibleSpec)

/-- 'gauntletlaw35.MergesFold', WHERE WHAT IT READS IS OF BULK AT MOST 1048576: true; the input reads as it did. -/
def mergesFoldUptoRow : OpenClaim := { program := "ytkfpnkpomjmpeaa", sum := "edbf60083fef291d7396f4acdf9a96cbb1778ca5fa4c6f40d057ca33f0c66334", func := "gauntlet/gauntletlaw35.MergesFold", spec := "mergesFold", unfollowed := true, recurses := true, apart := false, narrowed := true }
def MergesFoldUptoSaid : Prop := mergesFoldUptoRow.holds Try.pinned (OpenSpec.upto mergesFoldSpec)

/-- 'gauntletlaw35.MergesMerge', WHERE WHAT IT READS IS OF BULK AT MOST 1048576: true; the input reads as it did. -/
def mergesMergeUptoRow : OpenClaim := { program := "ytkfpnkpomjmpeaa", sum := "edbf60083fef291d7396f4acdf9a96cbb1778ca5fa4c6f40d057ca33f0c66334", func := "gauntlet/gauntletlaw35.MergesMerge", spec := "mergesMerge", unfollowed := true, recurses := true, apart := false, narrowed := true }
def MergesMergeUptoSaid : Prop := mergesMergeUptoRow.holds Try.pinned (OpenSpec.upto mergesMergeSpec)

/-- 'gauntletlaw35.MergesFits', WHERE WHAT IT READS IS OF BULK AT MOST 1048576: true; the input reads as it did. -/
def mergesFitsUptoRow : OpenClaim := { program := "ytkfpnkpomjmpeaa", sum := "edbf60083fef291d7396f4acdf9a96cbb1778ca5fa4c6f40d057ca33f0c66334", func := "gauntlet/gauntletlaw35.MergesFits", spec := "mergesFits", unfollowed := true, recurses := true, apart := false, narrowed := true }
def MergesFitsUptoSaid : Prop := mergesFitsUptoRow.holds Try.pinned (OpenSpec.upto mergesFitsSpec)

/-- 'gauntletlaw35.MergesLeast', WHERE WHAT IT READS IS OF BULK AT MOST 1048576: true; the input reads as it did. -/
def mergesLeastUptoRow : OpenClaim := { program := "ytkfpnkpomjmpeaa", sum := "edbf60083fef291d7396f4acdf9a96cbb1778ca5fa4c6f40d057ca33f0c66334", func := "gauntlet/gauntletlaw35.MergesLeast", spec := "mergesLeast", unfollowed := true, recurses := true, apart := false, narrowed := true }
def MergesLeastUptoSaid : Prop := mergesLeastUptoRow.holds Try.pinned (OpenSpec.upto mergesLeastSpec)

/-- 'gauntletlaw35.MergesFew', WHERE WHAT IT READS IS OF BULK AT MOST 1048576: true; the input reads as it did. -/
def mergesFewUptoRow : OpenClaim := { program := "ytkfpnkpomjmpeaa", sum := "edbf60083fef291d7396f4acdf9a96cbb1778ca5fa4c6f40d057ca33f0c66334", func := "gauntlet/gauntletlaw35.MergesFew", spec := "mergesFew", unfollowed := true, recurses := true, apart := false, narrowed := true }
def MergesFewUptoSaid : Prop := mergesFewUptoRow.holds Try.pinned (OpenSpec.upto mergesFewSpec)

/-- 'gauntletlaw35.MergesErrors', WHERE WHAT IT READS IS OF BULK AT MOST 1048576: true; the input reads as it did. -/
def mergesErrorsUptoRow : OpenClaim := { program := "ytkfpnkpomjmpeaa", sum := "edbf60083fef291d7396f4acdf9a96cbb1778ca5fa4c6f40d057ca33f0c66334", func := "gauntlet/gauntletlaw35.MergesErrors", spec := "mergesErrors", unfollowed := true, recurses := true, apart := false, narrowed := true }
def MergesErrorsUptoSaid : Prop := mergesErrorsUptoRow.holds Try.pinned (OpenSpec.upto mergesErrorsSpec)

/-- 'gauntletlaw35.MergesKnown', WHERE WHAT IT READS IS OF BULK AT MOST 1048576: true; the input reads as it did. -/
def mergesKnownUptoRow : OpenClaim := { program := "ytkfpnkpomjmpeaa", sum := "edbf60083fef291d7396f4acdf9a96cbb1778ca5fa4c6f40d057ca33f0c66334", func := "gauntlet/gauntletlaw35.MergesKnown", spec := "mergesKnown", unfollowed := true, recurses := true, apart := false, narrowed := true }
def MergesKnownUptoSaid : Prop := mergesKnownUptoRow.holds Try.pinned (OpenSpec.upto mergesKnownSpec)

end Rows
end Go.Proofs.Ytkfpnkpomjmpeaa
