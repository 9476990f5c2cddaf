/-
  No cell of these rows narrows 'for every input' (looked for: loops, veiled, ifaces, maps, wideKeys, modest, calm, conditions, laid).
  DERIVED. THE GIVEN ROWS OF THIS SEAT. 3 by the template 'for every input the law returns true; each argument reads behind the call as it read before'; 0 by the template 'total and deterministic' (their statements: YtnkcoooifjjmbaaTotals.lean).
  GIVEN WITH THE SEED: the statements are not yours to turn. If you find one false, say at which input.
  Laid BY PROGRAM, IN A SANDBOX (cutbox-rows.mjs): the forced cells as the released guide's own fill.sh prints them over the translation 33dd52433ce2ad78… (all of the seat's roots in one cut). By AI agents, Wed Nov 11 2026. No macro, syntax, notation, axiom, sorry.
-/
import Derived.Test.YtnkcoooifjjmbaaChecked
import GoSem.Claim
import GoSem.ClaimJoined
import GoSem.ClaimMapViews
import Derived.JoinedTies
import Derived.KernelRfl
namespace Go.Proofs.Ytnkcoooifjjmbaa
/- THE CELL 'sum', in the pinned program and in every row, IS THE sha256 OF THE DUMP (.gsa) THAT YtnkcoooifjjmbaaProg.lean LOADS. Nothing in Lean hashes anything: it is a label: what it is worth is what the hold of that sum in a sandbox is worth. -/
noncomputable def Try.pinned : Pinned := { name := "ytnkcoooifjjmbaa", sum := "33dd52433ce2ad787ab83de021bf685ab4ec7a12ee945704274fdba04c9abd77", checked := Try.checked }
namespace Rows
def none {H : Type} : Left H := { results := [], args := [] }

/-- 'laws.FnExactOpPlain': WHATEVER THE INPUT: true; the input reads as it did. -/
def fnExactOpPlainSpec : ChangeSpec := { name := "fnExactOpPlain", fn := fun _ => fun
  | [d] => { results := [.lit (.bool true)], args := [d] }
  | _ => none }
def fnExactOpPlainRow : OpenClaim := { program := "ytnkcoooifjjmbaa", sum := "33dd52433ce2ad787ab83de021bf685ab4ec7a12ee945704274fdba04c9abd77", func := "loop.example/flitting/laws.FnExactOpPlain", spec := "fnExactOpPlain", apart := false }
def FnExactOpPlainSaid : Prop := fnExactOpPlainRow.holds Try.pinned (OpenSpec.ofChange fnExactOpPlainSpec)

/-- ITS FALSE NEIGHBOUR: 'it returns false'. Refute it at one input. -/
def fnExactOpPlainWrong : ChangeSpec := { name := "fnExactOpPlain", fn := fun _ => fun
  | [d] => { results := [.lit (.bool false)], args := [d] }
  | _ => none }
def FnExactOpPlainWrongFalsely : Prop := fnExactOpPlainRow.holds Try.pinned (OpenSpec.ofChange fnExactOpPlainWrong)

/-- 'laws.FnExactStoryOk': WHATEVER THE INPUT: true; the input reads as it did. -/
def fnExactStoryOkSpec : ChangeSpec := { name := "fnExactStoryOk", fn := fun _ => fun
  | [d1, d2, d3] => { results := [.lit (.bool true)], args := [d1, d2, d3] }
  | _ => none }
def fnExactStoryOkRow : OpenClaim := { program := "ytnkcoooifjjmbaa", sum := "33dd52433ce2ad787ab83de021bf685ab4ec7a12ee945704274fdba04c9abd77", func := "loop.example/flitting/laws.FnExactStoryOk", spec := "fnExactStoryOk", unfollowed := true, recurses := true, apart := false }
def FnExactStoryOkSaid : Prop := fnExactStoryOkRow.holds Try.pinned (OpenSpec.ofChange fnExactStoryOkSpec)

/-- ITS FALSE NEIGHBOUR: 'it returns false'. Refute it at one input. -/
def fnExactStoryOkWrong : ChangeSpec := { name := "fnExactStoryOk", fn := fun _ => fun
  | [d1, d2, d3] => { results := [.lit (.bool false)], args := [d1, d2, d3] }
  | _ => none }
def FnExactStoryOkWrongFalsely : Prop := fnExactStoryOkRow.holds Try.pinned (OpenSpec.ofChange fnExactStoryOkWrong)

/-- 'laws.FnExactHistOk': WHATEVER THE INPUT: true; the input reads as it did. -/
def fnExactHistOkSpec : ChangeSpec := { name := "fnExactHistOk", fn := fun _ => fun
  | [d1, d2, d3] => { results := [.lit (.bool true)], args := [d1, d2, d3] }
  | _ => none }
def fnExactHistOkRow : OpenClaim := { program := "ytnkcoooifjjmbaa", sum := "33dd52433ce2ad787ab83de021bf685ab4ec7a12ee945704274fdba04c9abd77", func := "loop.example/flitting/laws.FnExactHistOk", spec := "fnExactHistOk", unfollowed := true, recurses := true, apart := false }
def FnExactHistOkSaid : Prop := fnExactHistOkRow.holds Try.pinned (OpenSpec.ofChange fnExactHistOkSpec)

/-- ITS FALSE NEIGHBOUR: 'it returns false'. Refute it at one input. -/
def fnExactHistOkWrong : ChangeSpec := { name := "fnExactHistOk", fn := fun _ => fun
  | [d1, d2, d3] => { results := [.lit (.bool false)], args := [d1, d2, d3] }
  | _ => none }
def FnExactHistOkWrongFalsely : Prop := fnExactHistOkRow.holds Try.pinned (OpenSpec.ofChange fnExactHistOkWrong)

/- THE SECOND FORM. 'bulk': how many values and letters a reading holds, each counted each time it is reached (what is shared counts as often as it is met; a slice's spare places count too). A statement '..UptoSaid' is the law's where the arguments, and the package variables that the reading takes, are together of bulk at most 1048576: NARROWER than '..Said'. Prove '..Said' where nothing that the law and all that it calls make is longer than what came in: it says more and counts as full. Else prove '..UptoSaid'. A law counts once. -/
mutual
def uptoBulk {H : Type} : DataW H → Nat
  | .lit (.string bytes) => bytes.length + 1
  | .lit _ => 1
  | .nil => 1
  | .ptr d => uptoBulk d + 1
  | .slice elems spare => uptoBulkAll elems + uptoBulkAll spare + 1
  | .agg parts => uptoBulkAll parts + 1
  | .iface _ d => uptoBulk d + 1
  | .map entries => uptoBulkEntries entries + 1
  | .held _ => 1
def uptoBulkAll {H : Type} : List (DataW H) → Nat
  | [] => 0
  | d :: r => uptoBulk d + uptoBulkAll r
def uptoBulkEntries {H : Type} : List (Lit × DataW H) → Nat
  | [] => 0
  | x :: r => uptoBulkEntry x + uptoBulkEntries r
def uptoBulkEntry {H : Type} : Lit × DataW H → Nat
  | (.string bytes, d) => bytes.length + uptoBulk d + 1
  | (_, d) => uptoBulk d + 1
 end
def uptoSmall : (H : Type) → List (DataW H) → Bool := fun _ ds => decide (uptoBulkAll ds ≤ 1048576)
def OpenSpec.upto (s : _root_.Go.ChangeSpec) : _root_.Go.OpenSpec := { _root_.Go.OpenSpec.ofChange s with cond := some uptoSmall }

/-- 'laws.FnExactOpPlain', WHERE WHAT IT READS IS OF BULK AT MOST 1048576: true; the input reads as it did. -/
def fnExactOpPlainUptoRow : OpenClaim := { program := "ytnkcoooifjjmbaa", sum := "33dd52433ce2ad787ab83de021bf685ab4ec7a12ee945704274fdba04c9abd77", func := "loop.example/flitting/laws.FnExactOpPlain", spec := "fnExactOpPlain", apart := false, narrowed := true }
def FnExactOpPlainUptoSaid : Prop := fnExactOpPlainUptoRow.holds Try.pinned (OpenSpec.upto fnExactOpPlainSpec)

/-- 'laws.FnExactStoryOk', WHERE WHAT IT READS IS OF BULK AT MOST 1048576: true; the input reads as it did. -/
def fnExactStoryOkUptoRow : OpenClaim := { program := "ytnkcoooifjjmbaa", sum := "33dd52433ce2ad787ab83de021bf685ab4ec7a12ee945704274fdba04c9abd77", func := "loop.example/flitting/laws.FnExactStoryOk", spec := "fnExactStoryOk", unfollowed := true, recurses := true, apart := false, narrowed := true }
def FnExactStoryOkUptoSaid : Prop := fnExactStoryOkUptoRow.holds Try.pinned (OpenSpec.upto fnExactStoryOkSpec)

/-- 'laws.FnExactHistOk', WHERE WHAT IT READS IS OF BULK AT MOST 1048576: true; the input reads as it did. -/
def fnExactHistOkUptoRow : OpenClaim := { program := "ytnkcoooifjjmbaa", sum := "33dd52433ce2ad787ab83de021bf685ab4ec7a12ee945704274fdba04c9abd77", func := "loop.example/flitting/laws.FnExactHistOk", spec := "fnExactHistOk", unfollowed := true, recurses := true, apart := false, narrowed := true }
def FnExactHistOkUptoSaid : Prop := fnExactHistOkUptoRow.holds Try.pinned (OpenSpec.upto fnExactHistOkSpec)

end Rows
end Go.Proofs.Ytnkcoooifjjmbaa
