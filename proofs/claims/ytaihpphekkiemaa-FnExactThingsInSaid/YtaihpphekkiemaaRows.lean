/-
  No cell of these rows narrows 'for every input' (looked for: loops, veiled, ifaces, maps, wideKeys, modest, calm, conditions, laid).
  DERIVED. THE GIVEN ROWS OF THIS SEAT. 8 by the template 'for every input the law returns true; each argument reads behind the call as it read before'; 0 by the template 'total and deterministic' (their statements: YtaihpphekkiemaaTotals.lean).
  GIVEN WITH THE SEED: the statements are not yours to turn. If you find one false, say at which input.
  Laid BY PROGRAM, IN A SANDBOX (cutbox-rows.mjs): the forced cells as the released guide's own fill.sh prints them over the translation 45770b0dd722f830… (all of the seat's roots in one cut). By AI agents, Wed Nov 11 2026. No macro, syntax, notation, axiom, sorry.
-/
import Derived.Test.YtaihpphekkiemaaChecked
import GoSem.Claim
import GoSem.ClaimJoined
import GoSem.ClaimMapViews
import Derived.JoinedTies
import Derived.KernelRfl
namespace Go.Proofs.Ytaihpphekkiemaa
/- THE CELL 'sum', in the pinned program and in every row, IS THE sha256 OF THE DUMP (.gsa) THAT YtaihpphekkiemaaProg.lean LOADS. Nothing in Lean hashes anything: it is a label: what it is worth is what the hold of that sum in a sandbox is worth. -/
noncomputable def Try.pinned : Pinned := { name := "ytaihpphekkiemaa", sum := "45770b0dd722f830f6acd01ca5eb8d3477a9bf396a884a93e9697a666a781422", checked := Try.checked }
namespace Rows
def none {H : Type} : Left H := { results := [], args := [] }

/-- 'laws.FnExactWordPut': WHATEVER THE INPUT: true; the input reads as it did. -/
def fnExactWordPutSpec : ChangeSpec := { name := "fnExactWordPut", fn := fun _ => fun
  | [d1, d2, d3] => { results := [.lit (.bool true)], args := [d1, d2, d3] }
  | _ => none }
def fnExactWordPutRow : OpenClaim := { program := "ytaihpphekkiemaa", sum := "45770b0dd722f830f6acd01ca5eb8d3477a9bf396a884a93e9697a666a781422", func := "loop.example/flitting/laws.FnExactWordPut", spec := "fnExactWordPut", apart := false }
def FnExactWordPutSaid : Prop := fnExactWordPutRow.holds Try.pinned (OpenSpec.ofChange fnExactWordPutSpec)

/-- ITS FALSE NEIGHBOUR: 'it returns false'. Refute it at one input. -/
def fnExactWordPutWrong : ChangeSpec := { name := "fnExactWordPut", fn := fun _ => fun
  | [d1, d2, d3] => { results := [.lit (.bool false)], args := [d1, d2, d3] }
  | _ => none }
def FnExactWordPutWrongFalsely : Prop := fnExactWordPutRow.holds Try.pinned (OpenSpec.ofChange fnExactWordPutWrong)

/-- 'laws.FnExactWordSwap': WHATEVER THE INPUT: true; the input reads as it did. -/
def fnExactWordSwapSpec : ChangeSpec := { name := "fnExactWordSwap", fn := fun _ => fun
  | [d1, d2, d3, d4] => { results := [.lit (.bool true)], args := [d1, d2, d3, d4] }
  | _ => none }
def fnExactWordSwapRow : OpenClaim := { program := "ytaihpphekkiemaa", sum := "45770b0dd722f830f6acd01ca5eb8d3477a9bf396a884a93e9697a666a781422", func := "loop.example/flitting/laws.FnExactWordSwap", spec := "fnExactWordSwap", apart := false }
def FnExactWordSwapSaid : Prop := fnExactWordSwapRow.holds Try.pinned (OpenSpec.ofChange fnExactWordSwapSpec)

/-- ITS FALSE NEIGHBOUR: 'it returns false'. Refute it at one input. -/
def fnExactWordSwapWrong : ChangeSpec := { name := "fnExactWordSwap", fn := fun _ => fun
  | [d1, d2, d3, d4] => { results := [.lit (.bool false)], args := [d1, d2, d3, d4] }
  | _ => none }
def FnExactWordSwapWrongFalsely : Prop := fnExactWordSwapRow.holds Try.pinned (OpenSpec.ofChange fnExactWordSwapWrong)

/-- 'laws.FnMarkWalk': WHATEVER THE INPUT: true; the input reads as it did. -/
def fnMarkWalkSpec : ChangeSpec := { name := "fnMarkWalk", fn := fun _ => fun
  | [d] => { results := [.lit (.bool true)], args := [d] }
  | _ => none }
def fnMarkWalkRow : OpenClaim := { program := "ytaihpphekkiemaa", sum := "45770b0dd722f830f6acd01ca5eb8d3477a9bf396a884a93e9697a666a781422", func := "loop.example/flitting/laws.FnMarkWalk", spec := "fnMarkWalk", apart := false }
def FnMarkWalkSaid : Prop := fnMarkWalkRow.holds Try.pinned (OpenSpec.ofChange fnMarkWalkSpec)

/-- ITS FALSE NEIGHBOUR: 'it returns false'. Refute it at one input. -/
def fnMarkWalkWrong : ChangeSpec := { name := "fnMarkWalk", fn := fun _ => fun
  | [d] => { results := [.lit (.bool false)], args := [d] }
  | _ => none }
def FnMarkWalkWrongFalsely : Prop := fnMarkWalkRow.holds Try.pinned (OpenSpec.ofChange fnMarkWalkWrong)

/-- 'laws.FnMarks': WHATEVER THE INPUT: true; the input reads as it did. -/
def fnMarksSpec : ChangeSpec := { name := "fnMarks", fn := fun _ => fun
  | [d] => { results := [.lit (.bool true)], args := [d] }
  | _ => none }
def fnMarksRow : OpenClaim := { program := "ytaihpphekkiemaa", sum := "45770b0dd722f830f6acd01ca5eb8d3477a9bf396a884a93e9697a666a781422", func := "loop.example/flitting/laws.FnMarks", spec := "fnMarks", apart := false }
def FnMarksSaid : Prop := fnMarksRow.holds Try.pinned (OpenSpec.ofChange fnMarksSpec)

/-- ITS FALSE NEIGHBOUR: 'it returns false'. Refute it at one input. -/
def fnMarksWrong : ChangeSpec := { name := "fnMarks", fn := fun _ => fun
  | [d] => { results := [.lit (.bool false)], args := [d] }
  | _ => none }
def FnMarksWrongFalsely : Prop := fnMarksRow.holds Try.pinned (OpenSpec.ofChange fnMarksWrong)

/-- 'laws.FnExactThingMake': WHATEVER THE INPUT: true; the input reads as it did. -/
def fnExactThingMakeSpec : ChangeSpec := { name := "fnExactThingMake", fn := fun _ => fun
  | [d1, d2, d3] => { results := [.lit (.bool true)], args := [d1, d2, d3] }
  | _ => none }
def fnExactThingMakeRow : OpenClaim := { program := "ytaihpphekkiemaa", sum := "45770b0dd722f830f6acd01ca5eb8d3477a9bf396a884a93e9697a666a781422", func := "loop.example/flitting/laws.FnExactThingMake", spec := "fnExactThingMake", apart := false }
def FnExactThingMakeSaid : Prop := fnExactThingMakeRow.holds Try.pinned (OpenSpec.ofChange fnExactThingMakeSpec)

/-- ITS FALSE NEIGHBOUR: 'it returns false'. Refute it at one input. -/
def fnExactThingMakeWrong : ChangeSpec := { name := "fnExactThingMake", fn := fun _ => fun
  | [d1, d2, d3] => { results := [.lit (.bool false)], args := [d1, d2, d3] }
  | _ => none }
def FnExactThingMakeWrongFalsely : Prop := fnExactThingMakeRow.holds Try.pinned (OpenSpec.ofChange fnExactThingMakeWrong)

/-- 'laws.FnExactThingCopy': WHATEVER THE INPUT: true; the input reads as it did. -/
def fnExactThingCopySpec : ChangeSpec := { name := "fnExactThingCopy", fn := fun _ => fun
  | [d1, d2, d3] => { results := [.lit (.bool true)], args := [d1, d2, d3] }
  | _ => none }
def fnExactThingCopyRow : OpenClaim := { program := "ytaihpphekkiemaa", sum := "45770b0dd722f830f6acd01ca5eb8d3477a9bf396a884a93e9697a666a781422", func := "loop.example/flitting/laws.FnExactThingCopy", spec := "fnExactThingCopy", apart := false }
def FnExactThingCopySaid : Prop := fnExactThingCopyRow.holds Try.pinned (OpenSpec.ofChange fnExactThingCopySpec)

/-- ITS FALSE NEIGHBOUR: 'it returns false'. Refute it at one input. -/
def fnExactThingCopyWrong : ChangeSpec := { name := "fnExactThingCopy", fn := fun _ => fun
  | [d1, d2, d3] => { results := [.lit (.bool false)], args := [d1, d2, d3] }
  | _ => none }
def FnExactThingCopyWrongFalsely : Prop := fnExactThingCopyRow.holds Try.pinned (OpenSpec.ofChange fnExactThingCopyWrong)

/-- 'laws.FnExactThingAt': WHATEVER THE INPUT: true; the input reads as it did. -/
def fnExactThingAtSpec : ChangeSpec := { name := "fnExactThingAt", fn := fun _ => fun
  | [d1, d2] => { results := [.lit (.bool true)], args := [d1, d2] }
  | _ => none }
def fnExactThingAtRow : OpenClaim := { program := "ytaihpphekkiemaa", sum := "45770b0dd722f830f6acd01ca5eb8d3477a9bf396a884a93e9697a666a781422", func := "loop.example/flitting/laws.FnExactThingAt", spec := "fnExactThingAt", apart := false }
def FnExactThingAtSaid : Prop := fnExactThingAtRow.holds Try.pinned (OpenSpec.ofChange fnExactThingAtSpec)

/-- ITS FALSE NEIGHBOUR: 'it returns false'. Refute it at one input. -/
def fnExactThingAtWrong : ChangeSpec := { name := "fnExactThingAt", fn := fun _ => fun
  | [d1, d2] => { results := [.lit (.bool false)], args := [d1, d2] }
  | _ => none }
def FnExactThingAtWrongFalsely : Prop := fnExactThingAtRow.holds Try.pinned (OpenSpec.ofChange fnExactThingAtWrong)

/-- 'laws.FnExactThingsIn': WHATEVER THE INPUT: true; the input reads as it did. -/
def fnExactThingsInSpec : ChangeSpec := { name := "fnExactThingsIn", fn := fun _ => fun
  | [d1, d2, d3] => { results := [.lit (.bool true)], args := [d1, d2, d3] }
  | _ => none }
def fnExactThingsInRow : OpenClaim := { program := "ytaihpphekkiemaa", sum := "45770b0dd722f830f6acd01ca5eb8d3477a9bf396a884a93e9697a666a781422", func := "loop.example/flitting/laws.FnExactThingsIn", spec := "fnExactThingsIn", apart := false }
def FnExactThingsInSaid : Prop := fnExactThingsInRow.holds Try.pinned (OpenSpec.ofChange fnExactThingsInSpec)

/-- ITS FALSE NEIGHBOUR: 'it returns false'. Refute it at one input. -/
def fnExactThingsInWrong : ChangeSpec := { name := "fnExactThingsIn", fn := fun _ => fun
  | [d1, d2, d3] => { results := [.lit (.bool false)], args := [d1, d2, d3] }
  | _ => none }
def FnExactThingsInWrongFalsely : Prop := fnExactThingsInRow.holds Try.pinned (OpenSpec.ofChange fnExactThingsInWrong)

/- THE SECOND FORM. 'bulk': how many values and letters a reading holds, each counted each time it is reached (what is shared counts as often as it is met; a slice's spare places count too). A statement '..UptoSaid' is the law's where the arguments, and the package variables that the reading takes, are together of bulk at most 1048576: NARROWER than '..Said'. Prove '..Said' where nothing that the law and all that it calls make is longer than what came in: it says more and counts as full. Else prove '..UptoSaid'. A law counts once. -/
mutual
def uptoBulk {H : Type} : DataW H → Nat
  | .lit (.string bytes) => bytes.length + 1
  | .lit _ => 1
  | .nil => 1
  | .ptr d => uptoBulk d + 1
  | .slice elems spare => uptoBulkAll elems + uptoBulkAll spare + 1
  | .agg parts => uptoBulkAll parts + 1
  | .iface _ d => uptoBulk d + 1
  | .map entries => uptoBulkEntries entries + 1
  | .held _ => 1
def uptoBulkAll {H : Type} : List (DataW H) → Nat
  | [] => 0
  | d :: r => uptoBulk d + uptoBulkAll r
def uptoBulkEntries {H : Type} : List (Lit × DataW H) → Nat
  | [] => 0
  | x :: r => uptoBulkEntry x + uptoBulkEntries r
def uptoBulkEntry {H : Type} : Lit × DataW H → Nat
  | (.string bytes, d) => bytes.length + uptoBulk d + 1
  | (_, d) => uptoBulk d + 1
 end
def uptoSmall : (H : Type) → List (DataW H) → Bool := fun _ ds => decide (uptoBulkAll ds ≤ 1048576)
def OpenSpec.upto (s : _root_.Go.ChangeSpec) : _root_.Go.OpenSpec := { _root_.Go.OpenSpec.ofChange s with cond := some uptoSmall }

/-- 'laws.FnExactWordPut', WHERE WHAT IT READS IS OF BULK AT MOST 1048576: true; the input reads as it did. -/
def fnExactWordPutUptoRow : OpenClaim := { program := "ytaihpphekkiemaa", sum := "45770b0dd722f830f6acd01ca5eb8d3477a9bf396a884a93e9697a666a781422", func := "loop.example/flitting/laws.FnExactWordPut", spec := "fnExactWordPut", apart := false, narrowed := true }
def FnExactWordPutUptoSaid : Prop := fnExactWordPutUptoRow.holds Try.pinned (OpenSpec.upto fnExactWordPutSpec)

/-- 'laws.FnExactWordSwap', WHERE WHAT IT READS IS OF BULK AT MOST 1048576: true; the input reads as it did. -/
def fnExactWordSwapUptoRow : OpenClaim := { program := "ytaihpphekkiemaa", sum := "45770b0dd722f830f6acd01ca5eb8d3477a9bf396a884a93e9697a666a781422", func := "loop.example/flitting/laws.FnExactWordSwap", spec := "fnExactWordSwap", apart := false, narrowed := true }
def FnExactWordSwapUptoSaid : Prop := fnExactWordSwapUptoRow.holds Try.pinned (OpenSpec.upto fnExactWordSwapSpec)

/-- 'laws.FnMarkWalk', WHERE WHAT IT READS IS OF BULK AT MOST 1048576: true; the input reads as it did. -/
def fnMarkWalkUptoRow : OpenClaim := { program := "ytaihpphekkiemaa", sum := "45770b0dd722f830f6acd01ca5eb8d3477a9bf396a884a93e9697a666a781422", func := "loop.example/flitting/laws.FnMarkWalk", spec := "fnMarkWalk", apart := false, narrowed := true }
def FnMarkWalkUptoSaid : Prop := fnMarkWalkUptoRow.holds Try.pinned (OpenSpec.upto fnMarkWalkSpec)

/-- 'laws.FnMarks', WHERE WHAT IT READS IS OF BULK AT MOST 1048576: true; the input reads as it did. -/
def fnMarksUptoRow : OpenClaim := { program := "ytaihpphekkiemaa", sum := "45770b0dd722f830f6acd01ca5eb8d3477a9bf396a884a93e9697a666a781422", func := "loop.example/flitting/laws.FnMarks", spec := "fnMarks", apart := false, narrowed := true }
def FnMarksUptoSaid : Prop := fnMarksUptoRow.holds Try.pinned (OpenSpec.upto fnMarksSpec)

/-- 'laws.FnExactThingMake', WHERE WHAT IT READS IS OF BULK AT MOST 1048576: true; the input reads as it did. -/
def fnExactThingMakeUptoRow : OpenClaim := { program := "ytaihpphekkiemaa", sum := "45770b0dd722f830f6acd01ca5eb8d3477a9bf396a884a93e9697a666a781422", func := "loop.example/flitting/laws.FnExactThingMake", spec := "fnExactThingMake", apart := false, narrowed := true }
def FnExactThingMakeUptoSaid : Prop := fnExactThingMakeUptoRow.holds Try.pinned (OpenSpec.upto fnExactThingMakeSpec)

/-- 'laws.FnExactThingCopy', WHERE WHAT IT READS IS OF BULK AT MOST 1048576: true; the input reads as it did. -/
def fnExactThingCopyUptoRow : OpenClaim := { program := "ytaihpphekkiemaa", sum := "45770b0dd722f830f6acd01ca5eb8d3477a9bf396a884a93e9697a666a781422", func := "loop.example/flitting/laws.FnExactThingCopy", spec := "fnExactThingCopy", apart := false, narrowed := true }
def FnExactThingCopyUptoSaid : Prop := fnExactThingCopyUptoRow.holds Try.pinned (OpenSpec.upto fnExactThingCopySpec)

/-- 'laws.FnExactThingAt', WHERE WHAT IT READS IS OF BULK AT MOST 1048576: true; the input reads as it did. -/
def fnExactThingAtUptoRow : OpenClaim := { program := "ytaihpphekkiemaa", sum := "45770b0dd722f830f6acd01ca5eb8d3477a9bf396a884a93e9697a666a781422", func := "loop.example/flitting/laws.FnExactThingAt", spec := "fnExactThingAt", apart := false, narrowed := true }
def FnExactThingAtUptoSaid : Prop := fnExactThingAtUptoRow.holds Try.pinned (OpenSpec.upto fnExactThingAtSpec)

/-- 'laws.FnExactThingsIn', WHERE WHAT IT READS IS OF BULK AT MOST 1048576: true; the input reads as it did. -/
def fnExactThingsInUptoRow : OpenClaim := { program := "ytaihpphekkiemaa", sum := "45770b0dd722f830f6acd01ca5eb8d3477a9bf396a884a93e9697a666a781422", func := "loop.example/flitting/laws.FnExactThingsIn", spec := "fnExactThingsIn", apart := false, narrowed := true }
def FnExactThingsInUptoSaid : Prop := fnExactThingsInUptoRow.holds Try.pinned (OpenSpec.upto fnExactThingsInSpec)

end Rows
end Go.Proofs.Ytaihpphekkiemaa
