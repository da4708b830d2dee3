/-
  No cell of these rows narrows 'for every input' (looked for: loops, veiled, ifaces, maps, wideKeys, modest, calm, conditions, laid).
  DERIVED. THE GIVEN ROWS OF THIS SEAT. 6 by the template 'for every input the law returns true; each argument reads behind the call as it read before'; 0 by the template 'total and deterministic' (their statements: YtnnmghgifhidgaaTotals.lean).
  GIVEN WITH THE SEED: the statements are not yours to turn. If you find one false, say at which input.
  Laid BY PROGRAM, IN A SANDBOX (cutbox-rows.mjs): the forced cells as the released guide's own fill.sh prints them over the translation 3d7bfd9b53676568… (all of the seat's roots in one cut). By AI agents, Wed Nov 11 2026. No macro, syntax, notation, axiom, sorry.
-/
import Derived.Test.YtnnmghgifhidgaaChecked
import GoSem.Claim
import GoSem.ClaimJoined
import GoSem.ClaimMapViews
import Derived.JoinedTies
import Derived.KernelRfl
namespace Go.Proofs.Ytnnmghgifhidgaa
/- THE CELL 'sum', in the pinned program and in every row, IS THE sha256 OF THE DUMP (.gsa) THAT YtnnmghgifhidgaaProg.lean LOADS. Nothing in Lean hashes anything: it is a label: what it is worth is what the hold of that sum in a sandbox is worth. -/
noncomputable def Try.pinned : Pinned := { name := "ytnnmghgifhidgaa", sum := "3d7bfd9b5367656864ea73d21235a2ffcbe68c370a59e65156a8edbc6a0ab400", checked := Try.checked }
namespace Rows
def none {H : Type} : Left H := { results := [], args := [] }

/-- 'gauntletlaw30.TimersRun': WHATEVER THE INPUT: true; the input reads as it did. -/
def timersRunSpec : ChangeSpec := { name := "timersRun", fn := fun _ => fun
  | [d1, d2] => { results := [.lit (.bool true)], args := [d1, d2] }
  | _ => none }
def timersRunRow : OpenClaim := { program := "ytnnmghgifhidgaa", sum := "3d7bfd9b5367656864ea73d21235a2ffcbe68c370a59e65156a8edbc6a0ab400", func := "gauntlet/gauntletlaw30.TimersRun", spec := "timersRun", unfollowed := true, recurses := true, plainKeys := false, apart := false }
def TimersRunSaid : Prop := timersRunRow.holds Try.pinned (OpenSpec.ofChange timersRunSpec)

/-- ITS FALSE NEIGHBOUR: 'it returns false'. Refute it at one input. -/
def timersRunWrong : ChangeSpec := { name := "timersRun", fn := fun _ => fun
  | [d1, d2] => { results := [.lit (.bool false)], args := [d1, d2] }
  | _ => none }
def TimersRunWrongFalsely : Prop := timersRunRow.holds Try.pinned (OpenSpec.ofChange timersRunWrong)

/-- 'gauntletlaw30.TimersUnfold': WHATEVER THE INPUT: true; the input reads as it did. -/
def timersUnfoldSpec : ChangeSpec := { name := "timersUnfold", fn := fun _ => fun
  | [d1, d2] => { results := [.lit (.bool true)], args := [d1, d2] }
  | _ => none }
def timersUnfoldRow : OpenClaim := { program := "ytnnmghgifhidgaa", sum := "3d7bfd9b5367656864ea73d21235a2ffcbe68c370a59e65156a8edbc6a0ab400", func := "gauntlet/gauntletlaw30.TimersUnfold", spec := "timersUnfold", unfollowed := true, recurses := true, plainKeys := false, apart := false }
def TimersUnfoldSaid : Prop := timersUnfoldRow.holds Try.pinned (OpenSpec.ofChange timersUnfoldSpec)

/-- ITS FALSE NEIGHBOUR: 'it returns false'. Refute it at one input. -/
def timersUnfoldWrong : ChangeSpec := { name := "timersUnfold", fn := fun _ => fun
  | [d1, d2] => { results := [.lit (.bool false)], args := [d1, d2] }
  | _ => none }
def TimersUnfoldWrongFalsely : Prop := timersUnfoldRow.holds Try.pinned (OpenSpec.ofChange timersUnfoldWrong)

/-- 'gauntletlaw30.TimersEqual': WHATEVER THE INPUT: true; the input reads as it did. -/
def timersEqualSpec : ChangeSpec := { name := "timersEqual", fn := fun _ => fun
  | [d1, d2, d3] => { results := [.lit (.bool true)], args := [d1, d2, d3] }
  | _ => none }
def timersEqualRow : OpenClaim := { program := "ytnnmghgifhidgaa", sum := "3d7bfd9b5367656864ea73d21235a2ffcbe68c370a59e65156a8edbc6a0ab400", func := "gauntlet/gauntletlaw30.TimersEqual", spec := "timersEqual", unfollowed := true, recurses := true, plainKeys := false, apart := false }
def TimersEqualSaid : Prop := timersEqualRow.holds Try.pinned (OpenSpec.ofChange timersEqualSpec)

/-- ITS FALSE NEIGHBOUR: 'it returns false'. Refute it at one input. -/
def timersEqualWrong : ChangeSpec := { name := "timersEqual", fn := fun _ => fun
  | [d1, d2, d3] => { results := [.lit (.bool false)], args := [d1, d2, d3] }
  | _ => none }
def TimersEqualWrongFalsely : Prop := timersEqualRow.holds Try.pinned (OpenSpec.ofChange timersEqualWrong)

/-- 'gauntletlaw30.TimersPlain': WHATEVER THE INPUT: true; the input reads as it did. -/
def timersPlainSpec : ChangeSpec := { name := "timersPlain", fn := fun _ => fun
  | [d1, d2] => { results := [.lit (.bool true)], args := [d1, d2] }
  | _ => none }
def timersPlainRow : OpenClaim := { program := "ytnnmghgifhidgaa", sum := "3d7bfd9b5367656864ea73d21235a2ffcbe68c370a59e65156a8edbc6a0ab400", func := "gauntlet/gauntletlaw30.TimersPlain", spec := "timersPlain", unfollowed := true, recurses := true, plainKeys := false, apart := false }
def TimersPlainSaid : Prop := timersPlainRow.holds Try.pinned (OpenSpec.ofChange timersPlainSpec)

/-- ITS FALSE NEIGHBOUR: 'it returns false'. Refute it at one input. -/
def timersPlainWrong : ChangeSpec := { name := "timersPlain", fn := fun _ => fun
  | [d1, d2] => { results := [.lit (.bool false)], args := [d1, d2] }
  | _ => none }
def TimersPlainWrongFalsely : Prop := timersPlainRow.holds Try.pinned (OpenSpec.ofChange timersPlainWrong)

/-- 'gauntletlaw30.TimersErrors': WHATEVER THE INPUT: true; the input reads as it did. -/
def timersErrorsSpec : ChangeSpec := { name := "timersErrors", fn := fun _ => fun
  | [d1, d2, d3] => { results := [.lit (.bool true)], args := [d1, d2, d3] }
  | _ => none }
def timersErrorsRow : OpenClaim := { program := "ytnnmghgifhidgaa", sum := "3d7bfd9b5367656864ea73d21235a2ffcbe68c370a59e65156a8edbc6a0ab400", func := "gauntlet/gauntletlaw30.TimersErrors", spec := "timersErrors", unfollowed := true, recurses := true, plainKeys := false, apart := false }
def TimersErrorsSaid : Prop := timersErrorsRow.holds Try.pinned (OpenSpec.ofChange timersErrorsSpec)

/-- ITS FALSE NEIGHBOUR: 'it returns false'. Refute it at one input. -/
def timersErrorsWrong : ChangeSpec := { name := "timersErrors", fn := fun _ => fun
  | [d1, d2, d3] => { results := [.lit (.bool false)], args := [d1, d2, d3] }
  | _ => none }
def TimersErrorsWrongFalsely : Prop := timersErrorsRow.holds Try.pinned (OpenSpec.ofChange timersErrorsWrong)

/-- 'gauntletlaw30.TimersKnown': WHATEVER THE INPUT: true; the input reads as it did. -/
def timersKnownSpec : ChangeSpec := { name := "timersKnown", fn := fun _ => fun
  | [] => { results := [.lit (.bool true)], args := [] }
  | _ => none }
def timersKnownRow : OpenClaim := { program := "ytnnmghgifhidgaa", sum := "3d7bfd9b5367656864ea73d21235a2ffcbe68c370a59e65156a8edbc6a0ab400", func := "gauntlet/gauntletlaw30.TimersKnown", spec := "timersKnown", unfollowed := true, recurses := true, plainKeys := false, apart := false }
def TimersKnownSaid : Prop := timersKnownRow.holds Try.pinned (OpenSpec.ofChange timersKnownSpec)

/-- ITS FALSE NEIGHBOUR: 'it returns false'. Refute it at one input. -/
def timersKnownWrong : ChangeSpec := { name := "timersKnown", fn := fun _ => fun
  | [] => { results := [.lit (.bool false)], args := [] }
  | _ => none }
def TimersKnownWrongFalsely : Prop := timersKnownRow.holds Try.pinned (OpenSpec.ofChange timersKnownWrong)

/- THE SECOND FORM. 'bulk': how many values and letters a reading holds, each counted each time it is reached (what is shared counts as often as it is met; a slice's spare places count too). A statement '..UptoSaid' is the law's where the arguments, and the package variables that the reading takes, are together of bulk at most 1048576: NARROWER than '..Said'. Prove '..Said' where nothing that the law and all that it calls make is longer than what came in: it says more and counts as full. Else prove '..UptoSaid'. A law counts once. -/
mutual
def uptoBulk {H : Type} : DataW H → Nat
  | .lit (.string bytes) => bytes.length + 1
  | .lit _ => 1
  | .nil => 1
  | .ptr d => uptoBulk d + 1
  | .slice elems spare => uptoBulkAll elems + uptoBulkAll spare + 1
  | .agg parts => uptoBulkAll parts + 1
  | .iface _ d => uptoBulk d + 1
  | .map entries => uptoBulkEntries entries + 1
  | .held _ => 1
def uptoBulkAll {H : Type} : List (DataW H) → Nat
  | [] => 0
  | d :: r => uptoBulk d + uptoBulkAll r
def uptoBulkEntries {H : Type} : List (Lit × DataW H) → Nat
  | [] => 0
  | x :: r => uptoBulkEntry x + uptoBulkEntries r
def uptoBulkEntry {H : Type} : Lit × DataW H → Nat
  | (.string bytes, d) => bytes.length + uptoBulk d + 1
  | (_, d) => uptoBulk d + 1
 end
def uptoSmall : (H : Type) → List (DataW H) → Bool := fun _ ds => decide (uptoBulkAll ds ≤ 1048576)
def OpenSpec.upto (s : _root_.Go.ChangeSpec) : _root_.Go.OpenSpec := { _root_.Go.OpenSpec.ofChange s with cond := some uptoSmall }

/-- 'gauntletlaw30.TimersRun', WHERE WHAT IT READS IS OF BULK AT MOST 1048576: true; the input reads as it did. -/
def timersRunUptoRow : OpenClaim := { program := "ytnnmghgifhidgaa", sum := "3d7bfd9b5367656864ea73d21235a2ffcbe68c370a59e65156a8edbc6a0ab400", func := "gauntlet/gauntletlaw30.TimersRun", spec := "timersRun", unfollowed := true, recurses := true, plainKeys := false, apart := false, narrowed := true }
def TimersRunUptoSaid : Prop := timersRunUptoRow.holds Try.pinned (OpenSpec.upto timersRunSpec)

/-- 'gauntletlaw30.TimersUnfold', WHERE WHAT IT READS IS OF BULK AT MOST 1048576: true; the input reads as it did. -/
def timersUnfoldUptoRow : OpenClaim := { program := "ytnnmghgifhidgaa", sum := "3d7bfd9b5367656864ea73d21235a2ffcbe68c370a59e65156a8edbc6a0ab400", func := "gauntlet/gauntletlaw30.TimersUnfold", spec := "timersUnfold", unfollowed := true, recurses := true, plainKeys := false, apart := false, narrowed := true }
def TimersUnfoldUptoSaid : Prop := timersUnfoldUptoRow.holds Try.pinned (OpenSpec.upto timersUnfoldSpec)

/-- 'gauntletlaw30.TimersEqual', WHERE WHAT IT READS IS OF BULK AT MOST 1048576: true; the input reads as it did. -/
def timersEqualUptoRow : OpenClaim := { program := "ytnnmghgifhidgaa", sum := "3d7bfd9b5367656864ea73d21235a2ffcbe68c370a59e65156a8edbc6a0ab400", func := "gauntlet/gauntletlaw30.TimersEqual", spec := "timersEqual", unfollowed := true, recurses := true, plainKeys := false, apart := false, narrowed := true }
def TimersEqualUptoSaid : Prop := timersEqualUptoRow.holds Try.pinned (OpenSpec.upto timersEqualSpec)

/-- 'gauntletlaw30.TimersPlain', WHERE WHAT IT READS IS OF BULK AT MOST 1048576: true; the input reads as it did. -/
def timersPlainUptoRow : OpenClaim := { program := "ytnnmghgifhidgaa", sum := "3d7bfd9b5367656864ea73d21235a2ffcbe68c370a59e65156a8edbc6a0ab400", func := "gauntlet/gauntletlaw30.TimersPlain", spec := "timersPlain", unfollowed := true, recurses := true, plainKeys := false, apart := false, narrowed := true }
def TimersPlainUptoSaid : Prop := timersPlainUptoRow.holds Try.pinned (OpenSpec.upto timersPlainSpec)

/-- 'gauntletlaw30.TimersErrors', WHERE WHAT IT READS IS OF BULK AT MOST 1048576: true; the input reads as it did. -/
def timersErrorsUptoRow : OpenClaim := { program := "ytnnmghgifhidgaa", sum := "3d7bfd9b5367656864ea73d21235a2ffcbe68c370a59e65156a8edbc6a0ab400", func := "gauntlet/gauntletlaw30.TimersErrors", spec := "timersErrors", unfollowed := true, recurses := true, plainKeys := false, apart := false, narrowed := true }
def TimersErrorsUptoSaid : Prop := timersErrorsUptoRow.holds Try.pinned (OpenSpec.upto timersErrorsSpec)

/-- 'gauntletlaw30.TimersKnown', WHERE WHAT IT READS IS OF BULK AT MOST 1048576: true; the input reads as it did. -/
def timersKnownUptoRow : OpenClaim := { program := "ytnnmghgifhidgaa", sum := "3d7bfd9b5367656864ea73d21235a2ffcbe68c370a59e65156a8edbc6a0ab400", func := "gauntlet/gauntletlaw30.TimersKnown", spec := "timersKnown", unfollowed := true, recurses := true, plainKeys := false, apart := false, narrowed := true }
def TimersKnownUptoSaid : Prop := timersKnownUptoRow.holds Try.pinned (OpenSpec.upto timersKnownSpec)

end Rows
end Go.Proofs.Ytnnmghgifhidgaa
