/-
  No cell of these rows narrows 'for every input' (looked for: loops, veiled, ifaces, maps, wideKeys, modest, calm, conditions, laid).
  DERIVED. THE GIVEN ROWS OF THIS SEAT. 12 by the template 'for every input the law returns true; each argument reads behind the call as it read before'; 0 by the template 'total and deterministic' (their statements: YtpalgpgeicpaoaaTotals.lean).
  GIVEN WITH THE SEED: the statements are not yours to turn. If you find one false, say at which input.
  Laid BY PROGRAM, IN A SANDBOX (cutbox-rows.mjs): the forced cells as the released guide's own fill.sh prints them over the translation 498b20ecf0d3994e… (all of the seat's roots in one cut). By AI agents, Wed Nov 11 2026. No macro, syntax, notation, axiom, sorry.
-/
import Derived.Test.YtpalgpgeicpaoaaChecked
import GoSem.Claim
import GoSem.ClaimJoined
import GoSem.ClaimMapViews
import Derived.JoinedTies
import Derived.KernelRfl
namespace Go.Proofs.Ytpalgpgeicpaoaa
/- THE CELL 'sum', in the pinned program and in every row, IS THE sha256 OF THE DUMP (.gsa) THAT YtpalgpgeicpaoaaProg.lean LOADS. Nothing in Lean hashes anything: it is a label: what it is worth is what the hold of that sum in a sandbox is worth. -/
noncomputable def Try.pinned : Pinned := { name := "ytpalgpgeicpaoaa", sum := "498b20ecf0d3994ec68da139ffaee4f479140a254d1a3ea3f829d37150065b9b", checked := Try.checked }
namespace Rows
def none {H : Type} : Left H := { results := [], args := [] }

/-- 'laws.FnExactShapeOf': WHATEVER THE INPUT: true; the input reads as it did. -/
def fnExactShapeOfSpec : ChangeSpec := { name := "fnExactShapeOf", fn := fun _ => fun
  | [d] => { results := [.lit (.bool true)], args := [d] }
  | _ => none }
def fnExactShapeOfRow : OpenClaim := { program := "ytpalgpgeicpaoaa", sum := "498b20ecf0d3994ec68da139ffaee4f479140a254d1a3ea3f829d37150065b9b", func := "loop.example/flitting/laws.FnExactShapeOf", spec := "fnExactShapeOf", apart := false }
def FnExactShapeOfSaid : Prop := fnExactShapeOfRow.holds Try.pinned (OpenSpec.ofChange fnExactShapeOfSpec)

/-- ITS FALSE NEIGHBOUR: 'it returns false'. Refute it at one input. -/
def fnExactShapeOfWrong : ChangeSpec := { name := "fnExactShapeOf", fn := fun _ => fun
  | [d] => { results := [.lit (.bool false)], args := [d] }
  | _ => none }
def FnExactShapeOfWrongFalsely : Prop := fnExactShapeOfRow.holds Try.pinned (OpenSpec.ofChange fnExactShapeOfWrong)

/-- 'laws.FnExactSchedGap': WHATEVER THE INPUT: true; the input reads as it did. -/
def fnExactSchedGapSpec : ChangeSpec := { name := "fnExactSchedGap", fn := fun _ => fun
  | [d1, d2] => { results := [.lit (.bool true)], args := [d1, d2] }
  | _ => none }
def fnExactSchedGapRow : OpenClaim := { program := "ytpalgpgeicpaoaa", sum := "498b20ecf0d3994ec68da139ffaee4f479140a254d1a3ea3f829d37150065b9b", func := "loop.example/flitting/laws.FnExactSchedGap", spec := "fnExactSchedGap", apart := false }
def FnExactSchedGapSaid : Prop := fnExactSchedGapRow.holds Try.pinned (OpenSpec.ofChange fnExactSchedGapSpec)

/-- ITS FALSE NEIGHBOUR: 'it returns false'. Refute it at one input. -/
def fnExactSchedGapWrong : ChangeSpec := { name := "fnExactSchedGap", fn := fun _ => fun
  | [d1, d2] => { results := [.lit (.bool false)], args := [d1, d2] }
  | _ => none }
def FnExactSchedGapWrongFalsely : Prop := fnExactSchedGapRow.holds Try.pinned (OpenSpec.ofChange fnExactSchedGapWrong)

/-- 'laws.FnExactMarkNext': WHATEVER THE INPUT: true; the input reads as it did. -/
def fnExactMarkNextSpec : ChangeSpec := { name := "fnExactMarkNext", fn := fun _ => fun
  | [d1, d2, d3] => { results := [.lit (.bool true)], args := [d1, d2, d3] }
  | _ => none }
def fnExactMarkNextRow : OpenClaim := { program := "ytpalgpgeicpaoaa", sum := "498b20ecf0d3994ec68da139ffaee4f479140a254d1a3ea3f829d37150065b9b", func := "loop.example/flitting/laws.FnExactMarkNext", spec := "fnExactMarkNext", apart := false }
def FnExactMarkNextSaid : Prop := fnExactMarkNextRow.holds Try.pinned (OpenSpec.ofChange fnExactMarkNextSpec)

/-- ITS FALSE NEIGHBOUR: 'it returns false'. Refute it at one input. -/
def fnExactMarkNextWrong : ChangeSpec := { name := "fnExactMarkNext", fn := fun _ => fun
  | [d1, d2, d3] => { results := [.lit (.bool false)], args := [d1, d2, d3] }
  | _ => none }
def FnExactMarkNextWrongFalsely : Prop := fnExactMarkNextRow.holds Try.pinned (OpenSpec.ofChange fnExactMarkNextWrong)

/-- 'laws.FnRegions': WHATEVER THE INPUT: true; the input reads as it did. -/
def fnRegionsSpec : ChangeSpec := { name := "fnRegions", fn := fun _ => fun
  | [d] => { results := [.lit (.bool true)], args := [d] }
  | _ => none }
def fnRegionsRow : OpenClaim := { program := "ytpalgpgeicpaoaa", sum := "498b20ecf0d3994ec68da139ffaee4f479140a254d1a3ea3f829d37150065b9b", func := "loop.example/flitting/laws.FnRegions", spec := "fnRegions", apart := false }
def FnRegionsSaid : Prop := fnRegionsRow.holds Try.pinned (OpenSpec.ofChange fnRegionsSpec)

/-- ITS FALSE NEIGHBOUR: 'it returns false'. Refute it at one input. -/
def fnRegionsWrong : ChangeSpec := { name := "fnRegions", fn := fun _ => fun
  | [d] => { results := [.lit (.bool false)], args := [d] }
  | _ => none }
def FnRegionsWrongFalsely : Prop := fnRegionsRow.holds Try.pinned (OpenSpec.ofChange fnRegionsWrong)

/-- 'laws.FnExactSchedRound': WHATEVER THE INPUT: true; the input reads as it did. -/
def fnExactSchedRoundSpec : ChangeSpec := { name := "fnExactSchedRound", fn := fun _ => fun
  | [d1, d2] => { results := [.lit (.bool true)], args := [d1, d2] }
  | _ => none }
def fnExactSchedRoundRow : OpenClaim := { program := "ytpalgpgeicpaoaa", sum := "498b20ecf0d3994ec68da139ffaee4f479140a254d1a3ea3f829d37150065b9b", func := "loop.example/flitting/laws.FnExactSchedRound", spec := "fnExactSchedRound", apart := false }
def FnExactSchedRoundSaid : Prop := fnExactSchedRoundRow.holds Try.pinned (OpenSpec.ofChange fnExactSchedRoundSpec)

/-- ITS FALSE NEIGHBOUR: 'it returns false'. Refute it at one input. -/
def fnExactSchedRoundWrong : ChangeSpec := { name := "fnExactSchedRound", fn := fun _ => fun
  | [d1, d2] => { results := [.lit (.bool false)], args := [d1, d2] }
  | _ => none }
def FnExactSchedRoundWrongFalsely : Prop := fnExactSchedRoundRow.holds Try.pinned (OpenSpec.ofChange fnExactSchedRoundWrong)

/-- 'laws.FnExactSchedSeed': WHATEVER THE INPUT: true; the input reads as it did. -/
def fnExactSchedSeedSpec : ChangeSpec := { name := "fnExactSchedSeed", fn := fun _ => fun
  | [d1, d2, d3] => { results := [.lit (.bool true)], args := [d1, d2, d3] }
  | _ => none }
def fnExactSchedSeedRow : OpenClaim := { program := "ytpalgpgeicpaoaa", sum := "498b20ecf0d3994ec68da139ffaee4f479140a254d1a3ea3f829d37150065b9b", func := "loop.example/flitting/laws.FnExactSchedSeed", spec := "fnExactSchedSeed", apart := false }
def FnExactSchedSeedSaid : Prop := fnExactSchedSeedRow.holds Try.pinned (OpenSpec.ofChange fnExactSchedSeedSpec)

/-- ITS FALSE NEIGHBOUR: 'it returns false'. Refute it at one input. -/
def fnExactSchedSeedWrong : ChangeSpec := { name := "fnExactSchedSeed", fn := fun _ => fun
  | [d1, d2, d3] => { results := [.lit (.bool false)], args := [d1, d2, d3] }
  | _ => none }
def FnExactSchedSeedWrongFalsely : Prop := fnExactSchedSeedRow.holds Try.pinned (OpenSpec.ofChange fnExactSchedSeedWrong)

/-- 'laws.FnExactMarkSet': WHATEVER THE INPUT: true; the input reads as it did. -/
def fnExactMarkSetSpec : ChangeSpec := { name := "fnExactMarkSet", fn := fun _ => fun
  | [d1, d2] => { results := [.lit (.bool true)], args := [d1, d2] }
  | _ => none }
def fnExactMarkSetRow : OpenClaim := { program := "ytpalgpgeicpaoaa", sum := "498b20ecf0d3994ec68da139ffaee4f479140a254d1a3ea3f829d37150065b9b", func := "loop.example/flitting/laws.FnExactMarkSet", spec := "fnExactMarkSet", apart := false }
def FnExactMarkSetSaid : Prop := fnExactMarkSetRow.holds Try.pinned (OpenSpec.ofChange fnExactMarkSetSpec)

/-- ITS FALSE NEIGHBOUR: 'it returns false'. Refute it at one input. -/
def fnExactMarkSetWrong : ChangeSpec := { name := "fnExactMarkSet", fn := fun _ => fun
  | [d1, d2] => { results := [.lit (.bool false)], args := [d1, d2] }
  | _ => none }
def FnExactMarkSetWrongFalsely : Prop := fnExactMarkSetRow.holds Try.pinned (OpenSpec.ofChange fnExactMarkSetWrong)

/-- 'laws.FnExactMarkCount': WHATEVER THE INPUT: true; the input reads as it did. -/
def fnExactMarkCountSpec : ChangeSpec := { name := "fnExactMarkCount", fn := fun _ => fun
  | [d1, d2] => { results := [.lit (.bool true)], args := [d1, d2] }
  | _ => none }
def fnExactMarkCountRow : OpenClaim := { program := "ytpalgpgeicpaoaa", sum := "498b20ecf0d3994ec68da139ffaee4f479140a254d1a3ea3f829d37150065b9b", func := "loop.example/flitting/laws.FnExactMarkCount", spec := "fnExactMarkCount", apart := false }
def FnExactMarkCountSaid : Prop := fnExactMarkCountRow.holds Try.pinned (OpenSpec.ofChange fnExactMarkCountSpec)

/-- ITS FALSE NEIGHBOUR: 'it returns false'. Refute it at one input. -/
def fnExactMarkCountWrong : ChangeSpec := { name := "fnExactMarkCount", fn := fun _ => fun
  | [d1, d2] => { results := [.lit (.bool false)], args := [d1, d2] }
  | _ => none }
def FnExactMarkCountWrongFalsely : Prop := fnExactMarkCountRow.holds Try.pinned (OpenSpec.ofChange fnExactMarkCountWrong)

/-- 'laws.FnShapes': WHATEVER THE INPUT: true; the input reads as it did. -/
def fnShapesSpec : ChangeSpec := { name := "fnShapes", fn := fun _ => fun
  | [d] => { results := [.lit (.bool true)], args := [d] }
  | _ => none }
def fnShapesRow : OpenClaim := { program := "ytpalgpgeicpaoaa", sum := "498b20ecf0d3994ec68da139ffaee4f479140a254d1a3ea3f829d37150065b9b", func := "loop.example/flitting/laws.FnShapes", spec := "fnShapes", apart := false }
def FnShapesSaid : Prop := fnShapesRow.holds Try.pinned (OpenSpec.ofChange fnShapesSpec)

/-- ITS FALSE NEIGHBOUR: 'it returns false'. Refute it at one input. -/
def fnShapesWrong : ChangeSpec := { name := "fnShapes", fn := fun _ => fun
  | [d] => { results := [.lit (.bool false)], args := [d] }
  | _ => none }
def FnShapesWrongFalsely : Prop := fnShapesRow.holds Try.pinned (OpenSpec.ofChange fnShapesWrong)

/-- 'laws.FnExactSchedCount': WHATEVER THE INPUT: true; the input reads as it did. -/
def fnExactSchedCountSpec : ChangeSpec := { name := "fnExactSchedCount", fn := fun _ => fun
  | [d1, d2] => { results := [.lit (.bool true)], args := [d1, d2] }
  | _ => none }
def fnExactSchedCountRow : OpenClaim := { program := "ytpalgpgeicpaoaa", sum := "498b20ecf0d3994ec68da139ffaee4f479140a254d1a3ea3f829d37150065b9b", func := "loop.example/flitting/laws.FnExactSchedCount", spec := "fnExactSchedCount", apart := false }
def FnExactSchedCountSaid : Prop := fnExactSchedCountRow.holds Try.pinned (OpenSpec.ofChange fnExactSchedCountSpec)

/-- ITS FALSE NEIGHBOUR: 'it returns false'. Refute it at one input. -/
def fnExactSchedCountWrong : ChangeSpec := { name := "fnExactSchedCount", fn := fun _ => fun
  | [d1, d2] => { results := [.lit (.bool false)], args := [d1, d2] }
  | _ => none }
def FnExactSchedCountWrongFalsely : Prop := fnExactSchedCountRow.holds Try.pinned (OpenSpec.ofChange fnExactSchedCountWrong)

/-- 'laws.FnSchedGapJoin': WHATEVER THE INPUT: true; the input reads as it did. -/
def fnSchedGapJoinSpec : ChangeSpec := { name := "fnSchedGapJoin", fn := fun _ => fun
  | [d1, d2] => { results := [.lit (.bool true)], args := [d1, d2] }
  | _ => none }
def fnSchedGapJoinRow : OpenClaim := { program := "ytpalgpgeicpaoaa", sum := "498b20ecf0d3994ec68da139ffaee4f479140a254d1a3ea3f829d37150065b9b", func := "loop.example/flitting/laws.FnSchedGapJoin", spec := "fnSchedGapJoin", apart := false }
def FnSchedGapJoinSaid : Prop := fnSchedGapJoinRow.holds Try.pinned (OpenSpec.ofChange fnSchedGapJoinSpec)

/-- ITS FALSE NEIGHBOUR: 'it returns false'. Refute it at one input. -/
def fnSchedGapJoinWrong : ChangeSpec := { name := "fnSchedGapJoin", fn := fun _ => fun
  | [d1, d2] => { results := [.lit (.bool false)], args := [d1, d2] }
  | _ => none }
def FnSchedGapJoinWrongFalsely : Prop := fnSchedGapJoinRow.holds Try.pinned (OpenSpec.ofChange fnSchedGapJoinWrong)

/-- 'laws.FnSchedTurns': WHATEVER THE INPUT: true; the input reads as it did. -/
def fnSchedTurnsSpec : ChangeSpec := { name := "fnSchedTurns", fn := fun _ => fun
  | [d] => { results := [.lit (.bool true)], args := [d] }
  | _ => none }
def fnSchedTurnsRow : OpenClaim := { program := "ytpalgpgeicpaoaa", sum := "498b20ecf0d3994ec68da139ffaee4f479140a254d1a3ea3f829d37150065b9b", func := "loop.example/flitting/laws.FnSchedTurns", spec := "fnSchedTurns", apart := false }
def FnSchedTurnsSaid : Prop := fnSchedTurnsRow.holds Try.pinned (OpenSpec.ofChange fnSchedTurnsSpec)

/-- ITS FALSE NEIGHBOUR: 'it returns false'. Refute it at one input. -/
def fnSchedTurnsWrong : ChangeSpec := { name := "fnSchedTurns", fn := fun _ => fun
  | [d] => { results := [.lit (.bool false)], args := [d] }
  | _ => none }
def FnSchedTurnsWrongFalsely : Prop := fnSchedTurnsRow.holds Try.pinned (OpenSpec.ofChange fnSchedTurnsWrong)

/- THE SECOND FORM. 'bulk': how many values and letters a reading holds, each counted each time it is reached (what is shared counts as often as it is met; a slice's spare places count too). A statement '..UptoSaid' is the law's where the arguments, and the package variables that the reading takes, are together of bulk at most 1048576: NARROWER than '..Said'. Prove '..Said' where nothing that the law and all that it calls make is longer than what came in: it says more and counts as full. Else prove '..UptoSaid'. A law counts once. -/
mutual
def uptoBulk {H : Type} : DataW H → Nat
  | .lit (.string bytes) => bytes.length + 1
  | .lit _ => 1
  | .nil => 1
  | .ptr d => uptoBulk d + 1
  | .slice elems spare => uptoBulkAll elems + uptoBulkAll spare + 1
  | .agg parts => uptoBulkAll parts + 1
  | .iface _ d => uptoBulk d + 1
  | .map entries => uptoBulkEntries entries + 1
  | .held _ => 1
def uptoBulkAll {H : Type} : List (DataW H) → Nat
  | [] => 0
  | d :: r => uptoBulk d + uptoBulkAll r
def uptoBulkEntries {H : Type} : List (Lit × DataW H) → Nat
  | [] => 0
  | x :: r => uptoBulkEntry x + uptoBulkEntries r
def uptoBulkEntry {H : Type} : Lit × DataW H → Nat
  | (.string bytes, d) => bytes.length + uptoBulk d + 1
  | (_, d) => uptoBulk d + 1
 end
def uptoSmall : (H : Type) → List (DataW H) → Bool := fun _ ds => decide (uptoBulkAll ds ≤ 1048576)
def OpenSpec.upto (s : _root_.Go.ChangeSpec) : _root_.Go.OpenSpec := { _root_.Go.OpenSpec.ofChange s with cond := some uptoSmall }

/-- 'laws.FnExactShapeOf', WHERE WHAT IT READS IS OF BULK AT MOST 1048576: true; the input reads as it did. -/
def fnExactShapeOfUptoRow : OpenClaim := { program := "ytpalgpgeicpaoaa", sum := "498b20ecf0d3994ec68da139ffaee4f479140a254d1a3ea3f829d37150065b9b", func := "loop.example/flitting/laws.FnExactShapeOf", spec := "fnExactShapeOf", apart := false, narrowed := true }
def FnExactShapeOfUptoSaid : Prop := fnExactShapeOfUptoRow.holds Try.pinned (OpenSpec.upto fnExactShapeOfSpec)

/-- 'laws.FnExactSchedGap', WHERE WHAT IT READS IS OF BULK AT MOST 1048576: true; the input reads as it did. -/
def fnExactSchedGapUptoRow : OpenClaim := { program := "ytpalgpgeicpaoaa", sum := "498b20ecf0d3994ec68da139ffaee4f479140a254d1a3ea3f829d37150065b9b", func := "loop.example/flitting/laws.FnExactSchedGap", spec := "fnExactSchedGap", apart := false, narrowed := true }
def FnExactSchedGapUptoSaid : Prop := fnExactSchedGapUptoRow.holds Try.pinned (OpenSpec.upto fnExactSchedGapSpec)

/-- 'laws.FnExactMarkNext', WHERE WHAT IT READS IS OF BULK AT MOST 1048576: true; the input reads as it did. -/
def fnExactMarkNextUptoRow : OpenClaim := { program := "ytpalgpgeicpaoaa", sum := "498b20ecf0d3994ec68da139ffaee4f479140a254d1a3ea3f829d37150065b9b", func := "loop.example/flitting/laws.FnExactMarkNext", spec := "fnExactMarkNext", apart := false, narrowed := true }
def FnExactMarkNextUptoSaid : Prop := fnExactMarkNextUptoRow.holds Try.pinned (OpenSpec.upto fnExactMarkNextSpec)

/-- 'laws.FnRegions', WHERE WHAT IT READS IS OF BULK AT MOST 1048576: true; the input reads as it did. -/
def fnRegionsUptoRow : OpenClaim := { program := "ytpalgpgeicpaoaa", sum := "498b20ecf0d3994ec68da139ffaee4f479140a254d1a3ea3f829d37150065b9b", func := "loop.example/flitting/laws.FnRegions", spec := "fnRegions", apart := false, narrowed := true }
def FnRegionsUptoSaid : Prop := fnRegionsUptoRow.holds Try.pinned (OpenSpec.upto fnRegionsSpec)

/-- 'laws.FnExactSchedRound', WHERE WHAT IT READS IS OF BULK AT MOST 1048576: true; the input reads as it did. -/
def fnExactSchedRoundUptoRow : OpenClaim := { program := "ytpalgpgeicpaoaa", sum := "498b20ecf0d3994ec68da139ffaee4f479140a254d1a3ea3f829d37150065b9b", func := "loop.example/flitting/laws.FnExactSchedRound", spec := "fnExactSchedRound", apart := false, narrowed := true }
def FnExactSchedRoundUptoSaid : Prop := fnExactSchedRoundUptoRow.holds Try.pinned (OpenSpec.upto fnExactSchedRoundSpec)

/-- 'laws.FnExactSchedSeed', WHERE WHAT IT READS IS OF BULK AT MOST 1048576: true; the input reads as it did. -/
def fnExactSchedSeedUptoRow : OpenClaim := { program := "ytpalgpgeicpaoaa", sum := "498b20ecf0d3994ec68da139ffaee4f479140a254d1a3ea3f829d37150065b9b", func := "loop.example/flitting/laws.FnExactSchedSeed", spec := "fnExactSchedSeed", apart := false, narrowed := true }
def FnExactSchedSeedUptoSaid : Prop := fnExactSchedSeedUptoRow.holds Try.pinned (OpenSpec.upto fnExactSchedSeedSpec)

/-- 'laws.FnExactMarkSet', WHERE WHAT IT READS IS OF BULK AT MOST 1048576: true; the input reads as it did. -/
def fnExactMarkSetUptoRow : OpenClaim := { program := "ytpalgpgeicpaoaa", sum := "498b20ecf0d3994ec68da139ffaee4f479140a254d1a3ea3f829d37150065b9b", func := "loop.example/flitting/laws.FnExactMarkSet", spec := "fnExactMarkSet", apart := false, narrowed := true }
def FnExactMarkSetUptoSaid : Prop := fnExactMarkSetUptoRow.holds Try.pinned (OpenSpec.upto fnExactMarkSetSpec)

/-- 'laws.FnExactMarkCount', WHERE WHAT IT READS IS OF BULK AT MOST 1048576: true; the input reads as it did. -/
def fnExactMarkCountUptoRow : OpenClaim := { program := "ytpalgpgeicpaoaa", sum := "498b20ecf0d3994ec68da139ffaee4f479140a254d1a3ea3f829d37150065b9b", func := "loop.example/flitting/laws.FnExactMarkCount", spec := "fnExactMarkCount", apart := false, narrowed := true }
def FnExactMarkCountUptoSaid : Prop := fnExactMarkCountUptoRow.holds Try.pinned (OpenSpec.upto fnExactMarkCountSpec)

/-- 'laws.FnShapes', WHERE WHAT IT READS IS OF BULK AT MOST 1048576: true; the input reads as it did. -/
def fnShapesUptoRow : OpenClaim := { program := "ytpalgpgeicpaoaa", sum := "498b20ecf0d3994ec68da139ffaee4f479140a254d1a3ea3f829d37150065b9b", func := "loop.example/flitting/laws.FnShapes", spec := "fnShapes", apart := false, narrowed := true }
def FnShapesUptoSaid : Prop := fnShapesUptoRow.holds Try.pinned (OpenSpec.upto fnShapesSpec)

/-- 'laws.FnExactSchedCount', WHERE WHAT IT READS IS OF BULK AT MOST 1048576: true; the input reads as it did. -/
def fnExactSchedCountUptoRow : OpenClaim := { program := "ytpalgpgeicpaoaa", sum := "498b20ecf0d3994ec68da139ffaee4f479140a254d1a3ea3f829d37150065b9b", func := "loop.example/flitting/laws.FnExactSchedCount", spec := "fnExactSchedCount", apart := false, narrowed := true }
def FnExactSchedCountUptoSaid : Prop := fnExactSchedCountUptoRow.holds Try.pinned (OpenSpec.upto fnExactSchedCountSpec)

/-- 'laws.FnSchedGapJoin', WHERE WHAT IT READS IS OF BULK AT MOST 1048576: true; the input reads as it did. -/
def fnSchedGapJoinUptoRow : OpenClaim := { program := "ytpalgpgeicpaoaa", sum := "498b20ecf0d3994ec68da139ffaee4f479140a254d1a3ea3f829d37150065b9b", func := "loop.example/flitting/laws.FnSchedGapJoin", spec := "fnSchedGapJoin", apart := false, narrowed := true }
def FnSchedGapJoinUptoSaid : Prop := fnSchedGapJoinUptoRow.holds Try.pinned (OpenSpec.upto fnSchedGapJoinSpec)

/-- 'laws.FnSchedTurns', WHERE WHAT IT READS IS OF BULK AT MOST 1048576: true; the input reads as it did. -/
def fnSchedTurnsUptoRow : OpenClaim := { program := "ytpalgpgeicpaoaa", sum := "498b20ecf0d3994ec68da139ffaee4f479140a254d1a3ea3f829d37150065b9b", func := "loop.example/flitting/laws.FnSchedTurns", spec := "fnSchedTurns", apart := false, narrowed := true }
def FnSchedTurnsUptoSaid : Prop := fnSchedTurnsUptoRow.holds Try.pinned (OpenSpec.upto fnSchedTurnsSpec)

end Rows
end Go.Proofs.Ytpalgpgeicpaoaa
