/-
  No cell of these rows narrows 'for every input' (looked for: loops, veiled, ifaces, maps, wideKeys, modest, calm, conditions, laid).
  DERIVED. THE GIVEN ROWS OF THIS SEAT. 12 by the template 'for every input the law returns true; each argument reads behind the call as it read before'; 0 by the template 'total and deterministic' (their statements: YtmaonpelmicigaaTotals.lean).
  GIVEN WITH THE SEED: the statements are not yours to turn. If you find one false, say at which input.
  Laid BY PROGRAM, IN A SANDBOX (cutbox-rows.mjs): the forced cells as the released guide's own fill.sh prints them over the translation 9db55b7b21ae5e48… (all of the seat's roots in one cut). By AI agents, Wed Nov 11 2026. No macro, syntax, notation, axiom, sorry.
-/
import Derived.Test.YtmaonpelmicigaaChecked
import GoSem.Claim
import GoSem.ClaimJoined
import GoSem.ClaimMapViews
import Derived.JoinedTies
import Derived.KernelRfl
namespace Go.Proofs.Ytmaonpelmicigaa
/- THE CELL 'sum', in the pinned program and in every row, IS THE sha256 OF THE DUMP (.gsa) THAT YtmaonpelmicigaaProg.lean LOADS. Nothing in Lean hashes anything: it is a label: what it is worth is what the hold of that sum in a sandbox is worth. -/
noncomputable def Try.pinned : Pinned := { name := "ytmaonpelmicigaa", sum := "9db55b7b21ae5e487d4ebffd740e355a156e5e64094983de4f5c5e5dba5bd2dc", checked := Try.checked }
namespace Rows
def none {H : Type} : Left H := { results := [], args := [] }

/-- 'laws.FnExactConstants': WHATEVER THE INPUT: true; the input reads as it did. -/
def fnExactConstantsSpec : ChangeSpec := { name := "fnExactConstants", fn := fun _ => fun
  | [] => { results := [.lit (.bool true)], args := [] }
  | _ => none }
def fnExactConstantsRow : OpenClaim := { program := "ytmaonpelmicigaa", sum := "9db55b7b21ae5e487d4ebffd740e355a156e5e64094983de4f5c5e5dba5bd2dc", func := "loop.example/flitting/laws.FnExactConstants", spec := "fnExactConstants", apart := false }
def FnExactConstantsSaid : Prop := fnExactConstantsRow.holds Try.pinned (OpenSpec.ofChange fnExactConstantsSpec)

/-- ITS FALSE NEIGHBOUR: 'it returns false'. Refute it at one input. -/
def fnExactConstantsWrong : ChangeSpec := { name := "fnExactConstants", fn := fun _ => fun
  | [] => { results := [.lit (.bool false)], args := [] }
  | _ => none }
def FnExactConstantsWrongFalsely : Prop := fnExactConstantsRow.holds Try.pinned (OpenSpec.ofChange fnExactConstantsWrong)

/-- 'laws.FnExactRegionBase': WHATEVER THE INPUT: true; the input reads as it did. -/
def fnExactRegionBaseSpec : ChangeSpec := { name := "fnExactRegionBase", fn := fun _ => fun
  | [d] => { results := [.lit (.bool true)], args := [d] }
  | _ => none }
def fnExactRegionBaseRow : OpenClaim := { program := "ytmaonpelmicigaa", sum := "9db55b7b21ae5e487d4ebffd740e355a156e5e64094983de4f5c5e5dba5bd2dc", func := "loop.example/flitting/laws.FnExactRegionBase", spec := "fnExactRegionBase", apart := false }
def FnExactRegionBaseSaid : Prop := fnExactRegionBaseRow.holds Try.pinned (OpenSpec.ofChange fnExactRegionBaseSpec)

/-- ITS FALSE NEIGHBOUR: 'it returns false'. Refute it at one input. -/
def fnExactRegionBaseWrong : ChangeSpec := { name := "fnExactRegionBase", fn := fun _ => fun
  | [d] => { results := [.lit (.bool false)], args := [d] }
  | _ => none }
def FnExactRegionBaseWrongFalsely : Prop := fnExactRegionBaseRow.holds Try.pinned (OpenSpec.ofChange fnExactRegionBaseWrong)

/-- 'laws.FnExactRegionOf': WHATEVER THE INPUT: true; the input reads as it did. -/
def fnExactRegionOfSpec : ChangeSpec := { name := "fnExactRegionOf", fn := fun _ => fun
  | [d] => { results := [.lit (.bool true)], args := [d] }
  | _ => none }
def fnExactRegionOfRow : OpenClaim := { program := "ytmaonpelmicigaa", sum := "9db55b7b21ae5e487d4ebffd740e355a156e5e64094983de4f5c5e5dba5bd2dc", func := "loop.example/flitting/laws.FnExactRegionOf", spec := "fnExactRegionOf", apart := false }
def FnExactRegionOfSaid : Prop := fnExactRegionOfRow.holds Try.pinned (OpenSpec.ofChange fnExactRegionOfSpec)

/-- ITS FALSE NEIGHBOUR: 'it returns false'. Refute it at one input. -/
def fnExactRegionOfWrong : ChangeSpec := { name := "fnExactRegionOf", fn := fun _ => fun
  | [d] => { results := [.lit (.bool false)], args := [d] }
  | _ => none }
def FnExactRegionOfWrongFalsely : Prop := fnExactRegionOfRow.holds Try.pinned (OpenSpec.ofChange fnExactRegionOfWrong)

/-- 'laws.FnExactShapeOk': WHATEVER THE INPUT: true; the input reads as it did. -/
def fnExactShapeOkSpec : ChangeSpec := { name := "fnExactShapeOk", fn := fun _ => fun
  | [d] => { results := [.lit (.bool true)], args := [d] }
  | _ => none }
def fnExactShapeOkRow : OpenClaim := { program := "ytmaonpelmicigaa", sum := "9db55b7b21ae5e487d4ebffd740e355a156e5e64094983de4f5c5e5dba5bd2dc", func := "loop.example/flitting/laws.FnExactShapeOk", spec := "fnExactShapeOk", apart := false }
def FnExactShapeOkSaid : Prop := fnExactShapeOkRow.holds Try.pinned (OpenSpec.ofChange fnExactShapeOkSpec)

/-- ITS FALSE NEIGHBOUR: 'it returns false'. Refute it at one input. -/
def fnExactShapeOkWrong : ChangeSpec := { name := "fnExactShapeOk", fn := fun _ => fun
  | [d] => { results := [.lit (.bool false)], args := [d] }
  | _ => none }
def FnExactShapeOkWrongFalsely : Prop := fnExactShapeOkRow.holds Try.pinned (OpenSpec.ofChange fnExactShapeOkWrong)

/-- 'laws.FnExactConfigOk': WHATEVER THE INPUT: true; the input reads as it did. -/
def fnExactConfigOkSpec : ChangeSpec := { name := "fnExactConfigOk", fn := fun _ => fun
  | [d] => { results := [.lit (.bool true)], args := [d] }
  | _ => none }
def fnExactConfigOkRow : OpenClaim := { program := "ytmaonpelmicigaa", sum := "9db55b7b21ae5e487d4ebffd740e355a156e5e64094983de4f5c5e5dba5bd2dc", func := "loop.example/flitting/laws.FnExactConfigOk", spec := "fnExactConfigOk", apart := false }
def FnExactConfigOkSaid : Prop := fnExactConfigOkRow.holds Try.pinned (OpenSpec.ofChange fnExactConfigOkSpec)

/-- ITS FALSE NEIGHBOUR: 'it returns false'. Refute it at one input. -/
def fnExactConfigOkWrong : ChangeSpec := { name := "fnExactConfigOk", fn := fun _ => fun
  | [d] => { results := [.lit (.bool false)], args := [d] }
  | _ => none }
def FnExactConfigOkWrongFalsely : Prop := fnExactConfigOkRow.holds Try.pinned (OpenSpec.ofChange fnExactConfigOkWrong)

/-- 'laws.FnExactShapeSize': WHATEVER THE INPUT: true; the input reads as it did. -/
def fnExactShapeSizeSpec : ChangeSpec := { name := "fnExactShapeSize", fn := fun _ => fun
  | [d] => { results := [.lit (.bool true)], args := [d] }
  | _ => none }
def fnExactShapeSizeRow : OpenClaim := { program := "ytmaonpelmicigaa", sum := "9db55b7b21ae5e487d4ebffd740e355a156e5e64094983de4f5c5e5dba5bd2dc", func := "loop.example/flitting/laws.FnExactShapeSize", spec := "fnExactShapeSize", apart := false }
def FnExactShapeSizeSaid : Prop := fnExactShapeSizeRow.holds Try.pinned (OpenSpec.ofChange fnExactShapeSizeSpec)

/-- ITS FALSE NEIGHBOUR: 'it returns false'. Refute it at one input. -/
def fnExactShapeSizeWrong : ChangeSpec := { name := "fnExactShapeSize", fn := fun _ => fun
  | [d] => { results := [.lit (.bool false)], args := [d] }
  | _ => none }
def FnExactShapeSizeWrongFalsely : Prop := fnExactShapeSizeRow.holds Try.pinned (OpenSpec.ofChange fnExactShapeSizeWrong)

/-- 'laws.FnExactShapeWord': WHATEVER THE INPUT: true; the input reads as it did. -/
def fnExactShapeWordSpec : ChangeSpec := { name := "fnExactShapeWord", fn := fun _ => fun
  | [d] => { results := [.lit (.bool true)], args := [d] }
  | _ => none }
def fnExactShapeWordRow : OpenClaim := { program := "ytmaonpelmicigaa", sum := "9db55b7b21ae5e487d4ebffd740e355a156e5e64094983de4f5c5e5dba5bd2dc", func := "loop.example/flitting/laws.FnExactShapeWord", spec := "fnExactShapeWord", apart := false }
def FnExactShapeWordSaid : Prop := fnExactShapeWordRow.holds Try.pinned (OpenSpec.ofChange fnExactShapeWordSpec)

/-- ITS FALSE NEIGHBOUR: 'it returns false'. Refute it at one input. -/
def fnExactShapeWordWrong : ChangeSpec := { name := "fnExactShapeWord", fn := fun _ => fun
  | [d] => { results := [.lit (.bool false)], args := [d] }
  | _ => none }
def FnExactShapeWordWrongFalsely : Prop := fnExactShapeWordRow.holds Try.pinned (OpenSpec.ofChange fnExactShapeWordWrong)

/-- 'laws.FnExactWordsOk': WHATEVER THE INPUT: true; the input reads as it did. -/
def fnExactWordsOkSpec : ChangeSpec := { name := "fnExactWordsOk", fn := fun _ => fun
  | [d] => { results := [.lit (.bool true)], args := [d] }
  | _ => none }
def fnExactWordsOkRow : OpenClaim := { program := "ytmaonpelmicigaa", sum := "9db55b7b21ae5e487d4ebffd740e355a156e5e64094983de4f5c5e5dba5bd2dc", func := "loop.example/flitting/laws.FnExactWordsOk", spec := "fnExactWordsOk", apart := false }
def FnExactWordsOkSaid : Prop := fnExactWordsOkRow.holds Try.pinned (OpenSpec.ofChange fnExactWordsOkSpec)

/-- ITS FALSE NEIGHBOUR: 'it returns false'. Refute it at one input. -/
def fnExactWordsOkWrong : ChangeSpec := { name := "fnExactWordsOk", fn := fun _ => fun
  | [d] => { results := [.lit (.bool false)], args := [d] }
  | _ => none }
def FnExactWordsOkWrongFalsely : Prop := fnExactWordsOkRow.holds Try.pinned (OpenSpec.ofChange fnExactWordsOkWrong)

/-- 'laws.FnExactOpOk': WHATEVER THE INPUT: true; the input reads as it did. -/
def fnExactOpOkSpec : ChangeSpec := { name := "fnExactOpOk", fn := fun _ => fun
  | [d] => { results := [.lit (.bool true)], args := [d] }
  | _ => none }
def fnExactOpOkRow : OpenClaim := { program := "ytmaonpelmicigaa", sum := "9db55b7b21ae5e487d4ebffd740e355a156e5e64094983de4f5c5e5dba5bd2dc", func := "loop.example/flitting/laws.FnExactOpOk", spec := "fnExactOpOk", apart := false }
def FnExactOpOkSaid : Prop := fnExactOpOkRow.holds Try.pinned (OpenSpec.ofChange fnExactOpOkSpec)

/-- ITS FALSE NEIGHBOUR: 'it returns false'. Refute it at one input. -/
def fnExactOpOkWrong : ChangeSpec := { name := "fnExactOpOk", fn := fun _ => fun
  | [d] => { results := [.lit (.bool false)], args := [d] }
  | _ => none }
def FnExactOpOkWrongFalsely : Prop := fnExactOpOkRow.holds Try.pinned (OpenSpec.ofChange fnExactOpOkWrong)

/-- 'laws.FnExactMarkHas': WHATEVER THE INPUT: true; the input reads as it did. -/
def fnExactMarkHasSpec : ChangeSpec := { name := "fnExactMarkHas", fn := fun _ => fun
  | [d1, d2] => { results := [.lit (.bool true)], args := [d1, d2] }
  | _ => none }
def fnExactMarkHasRow : OpenClaim := { program := "ytmaonpelmicigaa", sum := "9db55b7b21ae5e487d4ebffd740e355a156e5e64094983de4f5c5e5dba5bd2dc", func := "loop.example/flitting/laws.FnExactMarkHas", spec := "fnExactMarkHas", apart := false }
def FnExactMarkHasSaid : Prop := fnExactMarkHasRow.holds Try.pinned (OpenSpec.ofChange fnExactMarkHasSpec)

/-- ITS FALSE NEIGHBOUR: 'it returns false'. Refute it at one input. -/
def fnExactMarkHasWrong : ChangeSpec := { name := "fnExactMarkHas", fn := fun _ => fun
  | [d1, d2] => { results := [.lit (.bool false)], args := [d1, d2] }
  | _ => none }
def FnExactMarkHasWrongFalsely : Prop := fnExactMarkHasRow.holds Try.pinned (OpenSpec.ofChange fnExactMarkHasWrong)

/-- 'laws.FnExactMarksNew': WHATEVER THE INPUT: true; the input reads as it did. -/
def fnExactMarksNewSpec : ChangeSpec := { name := "fnExactMarksNew", fn := fun _ => fun
  | [d] => { results := [.lit (.bool true)], args := [d] }
  | _ => none }
def fnExactMarksNewRow : OpenClaim := { program := "ytmaonpelmicigaa", sum := "9db55b7b21ae5e487d4ebffd740e355a156e5e64094983de4f5c5e5dba5bd2dc", func := "loop.example/flitting/laws.FnExactMarksNew", spec := "fnExactMarksNew", apart := false }
def FnExactMarksNewSaid : Prop := fnExactMarksNewRow.holds Try.pinned (OpenSpec.ofChange fnExactMarksNewSpec)

/-- ITS FALSE NEIGHBOUR: 'it returns false'. Refute it at one input. -/
def fnExactMarksNewWrong : ChangeSpec := { name := "fnExactMarksNew", fn := fun _ => fun
  | [d] => { results := [.lit (.bool false)], args := [d] }
  | _ => none }
def FnExactMarksNewWrongFalsely : Prop := fnExactMarksNewRow.holds Try.pinned (OpenSpec.ofChange fnExactMarksNewWrong)

/-- 'laws.FnExactWordAt': WHATEVER THE INPUT: true; the input reads as it did. -/
def fnExactWordAtSpec : ChangeSpec := { name := "fnExactWordAt", fn := fun _ => fun
  | [d1, d2] => { results := [.lit (.bool true)], args := [d1, d2] }
  | _ => none }
def fnExactWordAtRow : OpenClaim := { program := "ytmaonpelmicigaa", sum := "9db55b7b21ae5e487d4ebffd740e355a156e5e64094983de4f5c5e5dba5bd2dc", func := "loop.example/flitting/laws.FnExactWordAt", spec := "fnExactWordAt", apart := false }
def FnExactWordAtSaid : Prop := fnExactWordAtRow.holds Try.pinned (OpenSpec.ofChange fnExactWordAtSpec)

/-- ITS FALSE NEIGHBOUR: 'it returns false'. Refute it at one input. -/
def fnExactWordAtWrong : ChangeSpec := { name := "fnExactWordAt", fn := fun _ => fun
  | [d1, d2] => { results := [.lit (.bool false)], args := [d1, d2] }
  | _ => none }
def FnExactWordAtWrongFalsely : Prop := fnExactWordAtRow.holds Try.pinned (OpenSpec.ofChange fnExactWordAtWrong)

/- THE SECOND FORM. 'bulk': how many values and letters a reading holds, each counted each time it is reached (what is shared counts as often as it is met; a slice's spare places count too). A statement '..UptoSaid' is the law's where the arguments, and the package variables that the reading takes, are together of bulk at most 1048576: NARROWER than '..Said'. Prove '..Said' where nothing that the law and all that it calls make is longer than what came in: it says more and counts as full. Else prove '..UptoSaid'. A law counts once. -/
mutual
def uptoBulk {H : Type} : DataW H → Nat
  | .lit (.string bytes) => bytes.length + 1
  | .lit _ => 1
  | .nil => 1
  | .ptr d => uptoBulk d + 1
  | .slice elems spare => uptoBulkAll elems + uptoBulkAll spare + 1
  | .agg parts => uptoBulkAll parts + 1
  | .iface _ d => uptoBulk d + 1
  | .map entries => uptoBulkEntries entries + 1
  | .held _ => 1
def uptoBulkAll {H : Type} : List (DataW H) → Nat
  | [] => 0
  | d :: r => uptoBulk d + uptoBulkAll r
def uptoBulkEntries {H : Type} : List (Lit × DataW H) → Nat
  | [] => 0
  | x :: r => uptoBulkEntry x + uptoBulkEntries r
def uptoBulkEntry {H : Type} : Lit × DataW H → Nat
  | (.string bytes, d) => bytes.length + uptoBulk d + 1
  | (_, d) => uptoBulk d + 1
 end
def uptoSmall : (H : Type) → List (DataW H) → Bool := fun _ ds => decide (uptoBulkAll ds ≤ 1048576)
def OpenSpec.upto (s : _root_.Go.ChangeSpec) : _root_.Go.OpenSpec := { _root_.Go.OpenSpec.ofChange s with cond := some uptoSmall }

/-- 'laws.FnExactConstants', WHERE WHAT IT READS IS OF BULK AT MOST 1048576: true; the input reads as it did. -/
def fnExactConstantsUptoRow : OpenClaim := { program := "ytmaonpelmicigaa", sum := "9db55b7b21ae5e487d4ebffd740e355a156e5e64094983de4f5c5e5dba5bd2dc", func := "loop.example/flitting/laws.FnExactConstants", spec := "fnExactConstants", apart := false, narrowed := true }
def FnExactConstantsUptoSaid : Prop := fnExactConstantsUptoRow.holds Try.pinned (OpenSpec.upto fnExactConstantsSpec)

/-- 'laws.FnExactRegionBase', WHERE WHAT IT READS IS OF BULK AT MOST 1048576: true; the input reads as it did. -/
def fnExactRegionBaseUptoRow : OpenClaim := { program := "ytmaonpelmicigaa", sum := "9db55b7b21ae5e487d4ebffd740e355a156e5e64094983de4f5c5e5dba5bd2dc", func := "loop.example/flitting/laws.FnExactRegionBase", spec := "fnExactRegionBase", apart := false, narrowed := true }
def FnExactRegionBaseUptoSaid : Prop := fnExactRegionBaseUptoRow.holds Try.pinned (OpenSpec.upto fnExactRegionBaseSpec)

/-- 'laws.FnExactRegionOf', WHERE WHAT IT READS IS OF BULK AT MOST 1048576: true; the input reads as it did. -/
def fnExactRegionOfUptoRow : OpenClaim := { program := "ytmaonpelmicigaa", sum := "9db55b7b21ae5e487d4ebffd740e355a156e5e64094983de4f5c5e5dba5bd2dc", func := "loop.example/flitting/laws.FnExactRegionOf", spec := "fnExactRegionOf", apart := false, narrowed := true }
def FnExactRegionOfUptoSaid : Prop := fnExactRegionOfUptoRow.holds Try.pinned (OpenSpec.upto fnExactRegionOfSpec)

/-- 'laws.FnExactShapeOk', WHERE WHAT IT READS IS OF BULK AT MOST 1048576: true; the input reads as it did. -/
def fnExactShapeOkUptoRow : OpenClaim := { program := "ytmaonpelmicigaa", sum := "9db55b7b21ae5e487d4ebffd740e355a156e5e64094983de4f5c5e5dba5bd2dc", func := "loop.example/flitting/laws.FnExactShapeOk", spec := "fnExactShapeOk", apart := false, narrowed := true }
def FnExactShapeOkUptoSaid : Prop := fnExactShapeOkUptoRow.holds Try.pinned (OpenSpec.upto fnExactShapeOkSpec)

/-- 'laws.FnExactConfigOk', WHERE WHAT IT READS IS OF BULK AT MOST 1048576: true; the input reads as it did. -/
def fnExactConfigOkUptoRow : OpenClaim := { program := "ytmaonpelmicigaa", sum := "9db55b7b21ae5e487d4ebffd740e355a156e5e64094983de4f5c5e5dba5bd2dc", func := "loop.example/flitting/laws.FnExactConfigOk", spec := "fnExactConfigOk", apart := false, narrowed := true }
def FnExactConfigOkUptoSaid : Prop := fnExactConfigOkUptoRow.holds Try.pinned (OpenSpec.upto fnExactConfigOkSpec)

/-- 'laws.FnExactShapeSize', WHERE WHAT IT READS IS OF BULK AT MOST 1048576: true; the input reads as it did. -/
def fnExactShapeSizeUptoRow : OpenClaim := { program := "ytmaonpelmicigaa", sum := "9db55b7b21ae5e487d4ebffd740e355a156e5e64094983de4f5c5e5dba5bd2dc", func := "loop.example/flitting/laws.FnExactShapeSize", spec := "fnExactShapeSize", apart := false, narrowed := true }
def FnExactShapeSizeUptoSaid : Prop := fnExactShapeSizeUptoRow.holds Try.pinned (OpenSpec.upto fnExactShapeSizeSpec)

/-- 'laws.FnExactShapeWord', WHERE WHAT IT READS IS OF BULK AT MOST 1048576: true; the input reads as it did. -/
def fnExactShapeWordUptoRow : OpenClaim := { program := "ytmaonpelmicigaa", sum := "9db55b7b21ae5e487d4ebffd740e355a156e5e64094983de4f5c5e5dba5bd2dc", func := "loop.example/flitting/laws.FnExactShapeWord", spec := "fnExactShapeWord", apart := false, narrowed := true }
def FnExactShapeWordUptoSaid : Prop := fnExactShapeWordUptoRow.holds Try.pinned (OpenSpec.upto fnExactShapeWordSpec)

/-- 'laws.FnExactWordsOk', WHERE WHAT IT READS IS OF BULK AT MOST 1048576: true; the input reads as it did. -/
def fnExactWordsOkUptoRow : OpenClaim := { program := "ytmaonpelmicigaa", sum := "9db55b7b21ae5e487d4ebffd740e355a156e5e64094983de4f5c5e5dba5bd2dc", func := "loop.example/flitting/laws.FnExactWordsOk", spec := "fnExactWordsOk", apart := false, narrowed := true }
def FnExactWordsOkUptoSaid : Prop := fnExactWordsOkUptoRow.holds Try.pinned (OpenSpec.upto fnExactWordsOkSpec)

/-- 'laws.FnExactOpOk', WHERE WHAT IT READS IS OF BULK AT MOST 1048576: true; the input reads as it did. -/
def fnExactOpOkUptoRow : OpenClaim := { program := "ytmaonpelmicigaa", sum := "9db55b7b21ae5e487d4ebffd740e355a156e5e64094983de4f5c5e5dba5bd2dc", func := "loop.example/flitting/laws.FnExactOpOk", spec := "fnExactOpOk", apart := false, narrowed := true }
def FnExactOpOkUptoSaid : Prop := fnExactOpOkUptoRow.holds Try.pinned (OpenSpec.upto fnExactOpOkSpec)

/-- 'laws.FnExactMarkHas', WHERE WHAT IT READS IS OF BULK AT MOST 1048576: true; the input reads as it did. -/
def fnExactMarkHasUptoRow : OpenClaim := { program := "ytmaonpelmicigaa", sum := "9db55b7b21ae5e487d4ebffd740e355a156e5e64094983de4f5c5e5dba5bd2dc", func := "loop.example/flitting/laws.FnExactMarkHas", spec := "fnExactMarkHas", apart := false, narrowed := true }
def FnExactMarkHasUptoSaid : Prop := fnExactMarkHasUptoRow.holds Try.pinned (OpenSpec.upto fnExactMarkHasSpec)

/-- 'laws.FnExactMarksNew', WHERE WHAT IT READS IS OF BULK AT MOST 1048576: true; the input reads as it did. -/
def fnExactMarksNewUptoRow : OpenClaim := { program := "ytmaonpelmicigaa", sum := "9db55b7b21ae5e487d4ebffd740e355a156e5e64094983de4f5c5e5dba5bd2dc", func := "loop.example/flitting/laws.FnExactMarksNew", spec := "fnExactMarksNew", apart := false, narrowed := true }
def FnExactMarksNewUptoSaid : Prop := fnExactMarksNewUptoRow.holds Try.pinned (OpenSpec.upto fnExactMarksNewSpec)

/-- 'laws.FnExactWordAt', WHERE WHAT IT READS IS OF BULK AT MOST 1048576: true; the input reads as it did. -/
def fnExactWordAtUptoRow : OpenClaim := { program := "ytmaonpelmicigaa", sum := "9db55b7b21ae5e487d4ebffd740e355a156e5e64094983de4f5c5e5dba5bd2dc", func := "loop.example/flitting/laws.FnExactWordAt", spec := "fnExactWordAt", apart := false, narrowed := true }
def FnExactWordAtUptoSaid : Prop := fnExactWordAtUptoRow.holds Try.pinned (OpenSpec.upto fnExactWordAtSpec)

end Rows
end Go.Proofs.Ytmaonpelmicigaa
