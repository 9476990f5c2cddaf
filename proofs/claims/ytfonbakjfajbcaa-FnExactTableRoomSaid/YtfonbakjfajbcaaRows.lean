/-
  No cell of these rows narrows 'for every input' (looked for: loops, veiled, ifaces, maps, wideKeys, modest, calm, conditions, laid).
  DERIVED. THE GIVEN ROWS OF THIS SEAT. 6 by the template 'for every input the law returns true; each argument reads behind the call as it read before'; 0 by the template 'total and deterministic' (their statements: YtfonbakjfajbcaaTotals.lean).
  GIVEN WITH THE SEED: the statements are not yours to turn. If you find one false, say at which input.
  Laid BY PROGRAM, IN A SANDBOX (cutbox-rows.mjs): the forced cells as the released guide's own fill.sh prints them over the translation 654314c9b0e17927… (all of the seat's roots in one cut). By AI agents, Wed Nov 11 2026. No macro, syntax, notation, axiom, sorry.
-/
import Derived.Test.YtfonbakjfajbcaaChecked
import GoSem.Claim
import GoSem.ClaimJoined
import GoSem.ClaimMapViews
import Derived.JoinedTies
import Derived.KernelRfl
namespace Go.Proofs.Ytfonbakjfajbcaa
/- THE CELL 'sum', in the pinned program and in every row, IS THE sha256 OF THE DUMP (.gsa) THAT YtfonbakjfajbcaaProg.lean LOADS. Nothing in Lean hashes anything: it is a label: what it is worth is what the hold of that sum in a sandbox is worth. -/
noncomputable def Try.pinned : Pinned := { name := "ytfonbakjfajbcaa", sum := "654314c9b0e17927c525bb56599c2369f47a4e81e231ee5aa27756af6dde6d84", checked := Try.checked }
namespace Rows
def none {H : Type} : Left H := { results := [], args := [] }

/-- 'laws.FnExactTableNew': WHATEVER THE INPUT: true; the input reads as it did. -/
def fnExactTableNewSpec : ChangeSpec := { name := "fnExactTableNew", fn := fun _ => fun
  | [d] => { results := [.lit (.bool true)], args := [d] }
  | _ => none }
def fnExactTableNewRow : OpenClaim := { program := "ytfonbakjfajbcaa", sum := "654314c9b0e17927c525bb56599c2369f47a4e81e231ee5aa27756af6dde6d84", func := "loop.example/flitting/laws.FnExactTableNew", spec := "fnExactTableNew", apart := false }
def FnExactTableNewSaid : Prop := fnExactTableNewRow.holds Try.pinned (OpenSpec.ofChange fnExactTableNewSpec)

/-- ITS FALSE NEIGHBOUR: 'it returns false'. Refute it at one input. -/
def fnExactTableNewWrong : ChangeSpec := { name := "fnExactTableNew", fn := fun _ => fun
  | [d] => { results := [.lit (.bool false)], args := [d] }
  | _ => none }
def FnExactTableNewWrongFalsely : Prop := fnExactTableNewRow.holds Try.pinned (OpenSpec.ofChange fnExactTableNewWrong)

/-- 'laws.FnExactTableOk': WHATEVER THE INPUT: true; the input reads as it did. -/
def fnExactTableOkSpec : ChangeSpec := { name := "fnExactTableOk", fn := fun _ => fun
  | [d] => { results := [.lit (.bool true)], args := [d] }
  | _ => none }
def fnExactTableOkRow : OpenClaim := { program := "ytfonbakjfajbcaa", sum := "654314c9b0e17927c525bb56599c2369f47a4e81e231ee5aa27756af6dde6d84", func := "loop.example/flitting/laws.FnExactTableOk", spec := "fnExactTableOk", apart := false }
def FnExactTableOkSaid : Prop := fnExactTableOkRow.holds Try.pinned (OpenSpec.ofChange fnExactTableOkSpec)

/-- ITS FALSE NEIGHBOUR: 'it returns false'. Refute it at one input. -/
def fnExactTableOkWrong : ChangeSpec := { name := "fnExactTableOk", fn := fun _ => fun
  | [d] => { results := [.lit (.bool false)], args := [d] }
  | _ => none }
def FnExactTableOkWrongFalsely : Prop := fnExactTableOkRow.holds Try.pinned (OpenSpec.ofChange fnExactTableOkWrong)

/-- 'laws.FnExactTableClose': WHATEVER THE INPUT: true; the input reads as it did. -/
def fnExactTableCloseSpec : ChangeSpec := { name := "fnExactTableClose", fn := fun _ => fun
  | [d1, d2] => { results := [.lit (.bool true)], args := [d1, d2] }
  | _ => none }
def fnExactTableCloseRow : OpenClaim := { program := "ytfonbakjfajbcaa", sum := "654314c9b0e17927c525bb56599c2369f47a4e81e231ee5aa27756af6dde6d84", func := "loop.example/flitting/laws.FnExactTableClose", spec := "fnExactTableClose", apart := false }
def FnExactTableCloseSaid : Prop := fnExactTableCloseRow.holds Try.pinned (OpenSpec.ofChange fnExactTableCloseSpec)

/-- ITS FALSE NEIGHBOUR: 'it returns false'. Refute it at one input. -/
def fnExactTableCloseWrong : ChangeSpec := { name := "fnExactTableClose", fn := fun _ => fun
  | [d1, d2] => { results := [.lit (.bool false)], args := [d1, d2] }
  | _ => none }
def FnExactTableCloseWrongFalsely : Prop := fnExactTableCloseRow.holds Try.pinned (OpenSpec.ofChange fnExactTableCloseWrong)

/-- 'laws.FnExactTableDrop': WHATEVER THE INPUT: true; the input reads as it did. -/
def fnExactTableDropSpec : ChangeSpec := { name := "fnExactTableDrop", fn := fun _ => fun
  | [d1, d2] => { results := [.lit (.bool true)], args := [d1, d2] }
  | _ => none }
def fnExactTableDropRow : OpenClaim := { program := "ytfonbakjfajbcaa", sum := "654314c9b0e17927c525bb56599c2369f47a4e81e231ee5aa27756af6dde6d84", func := "loop.example/flitting/laws.FnExactTableDrop", spec := "fnExactTableDrop", apart := false }
def FnExactTableDropSaid : Prop := fnExactTableDropRow.holds Try.pinned (OpenSpec.ofChange fnExactTableDropSpec)

/-- ITS FALSE NEIGHBOUR: 'it returns false'. Refute it at one input. -/
def fnExactTableDropWrong : ChangeSpec := { name := "fnExactTableDrop", fn := fun _ => fun
  | [d1, d2] => { results := [.lit (.bool false)], args := [d1, d2] }
  | _ => none }
def FnExactTableDropWrongFalsely : Prop := fnExactTableDropRow.holds Try.pinned (OpenSpec.ofChange fnExactTableDropWrong)

/-- 'laws.FnExactTableTake': WHATEVER THE INPUT: true; the input reads as it did. -/
def fnExactTableTakeSpec : ChangeSpec := { name := "fnExactTableTake", fn := fun _ => fun
  | [d1, d2] => { results := [.lit (.bool true)], args := [d1, d2] }
  | _ => none }
def fnExactTableTakeRow : OpenClaim := { program := "ytfonbakjfajbcaa", sum := "654314c9b0e17927c525bb56599c2369f47a4e81e231ee5aa27756af6dde6d84", func := "loop.example/flitting/laws.FnExactTableTake", spec := "fnExactTableTake", unfollowed := true, recurses := true, apart := false }
def FnExactTableTakeSaid : Prop := fnExactTableTakeRow.holds Try.pinned (OpenSpec.ofChange fnExactTableTakeSpec)

/-- ITS FALSE NEIGHBOUR: 'it returns false'. Refute it at one input. -/
def fnExactTableTakeWrong : ChangeSpec := { name := "fnExactTableTake", fn := fun _ => fun
  | [d1, d2] => { results := [.lit (.bool false)], args := [d1, d2] }
  | _ => none }
def FnExactTableTakeWrongFalsely : Prop := fnExactTableTakeRow.holds Try.pinned (OpenSpec.ofChange fnExactTableTakeWrong)

/-- 'laws.FnExactTableRoom': WHATEVER THE INPUT: true; the input reads as it did. -/
def fnExactTableRoomSpec : ChangeSpec := { name := "fnExactTableRoom", fn := fun _ => fun
  | [d1, d2, d3] => { results := [.lit (.bool true)], args := [d1, d2, d3] }
  | _ => none }
def fnExactTableRoomRow : OpenClaim := { program := "ytfonbakjfajbcaa", sum := "654314c9b0e17927c525bb56599c2369f47a4e81e231ee5aa27756af6dde6d84", func := "loop.example/flitting/laws.FnExactTableRoom", spec := "fnExactTableRoom", unfollowed := true, recurses := true, apart := false }
def FnExactTableRoomSaid : Prop := fnExactTableRoomRow.holds Try.pinned (OpenSpec.ofChange fnExactTableRoomSpec)

/-- ITS FALSE NEIGHBOUR: 'it returns false'. Refute it at one input. -/
def fnExactTableRoomWrong : ChangeSpec := { name := "fnExactTableRoom", fn := fun _ => fun
  | [d1, d2, d3] => { results := [.lit (.bool false)], args := [d1, d2, d3] }
  | _ => none }
def FnExactTableRoomWrongFalsely : Prop := fnExactTableRoomRow.holds Try.pinned (OpenSpec.ofChange fnExactTableRoomWrong)

/- THE SECOND FORM. 'bulk': how many values and letters a reading holds, each counted each time it is reached (what is shared counts as often as it is met; a slice's spare places count too). A statement '..UptoSaid' is the law's where the arguments, and the package variables that the reading takes, are together of bulk at most 1048576: NARROWER than '..Said'. Prove '..Said' where nothing that the law and all that it calls make is longer than what came in: it says more and counts as full. Else prove '..UptoSaid'. A law counts once. -/
mutual
def uptoBulk {H : Type} : DataW H → Nat
  | .lit (.string bytes) => bytes.length + 1
  | .lit _ => 1
  | .nil => 1
  | .ptr d => uptoBulk d + 1
  | .slice elems spare => uptoBulkAll elems + uptoBulkAll spare + 1
  | .agg parts => uptoBulkAll parts + 1
  | .iface _ d => uptoBulk d + 1
  | .map entries => uptoBulkEntries entries + 1
  | .held _ => 1
def uptoBulkAll {H : Type} : List (DataW H) → Nat
  | [] => 0
  | d :: r => uptoBulk d + uptoBulkAll r
def uptoBulkEntries {H : Type} : List (Lit × DataW H) → Nat
  | [] => 0
  | x :: r => uptoBulkEntry x + uptoBulkEntries r
def uptoBulkEntry {H : Type} : Lit × DataW H → Nat
  | (.string bytes, d) => bytes.length + uptoBulk d + 1
  | (_, d) => uptoBulk d + 1
 end
def uptoSmall : (H : Type) → List (DataW H) → Bool := fun _ ds => decide (uptoBulkAll ds ≤ 1048576)
def OpenSpec.upto (s : _root_.Go.ChangeSpec) : _root_.Go.OpenSpec := { _root_.Go.OpenSpec.ofChange s with cond := some uptoSmall }

/-- 'laws.FnExactTableNew', WHERE WHAT IT READS IS OF BULK AT MOST 1048576: true; the input reads as it did. -/
def fnExactTableNewUptoRow : OpenClaim := { program := "ytfonbakjfajbcaa", sum := "654314c9b0e17927c525bb56599c2369f47a4e81e231ee5aa27756af6dde6d84", func := "loop.example/flitting/laws.FnExactTableNew", spec := "fnExactTableNew", apart := false, narrowed := true }
def FnExactTableNewUptoSaid : Prop := fnExactTableNewUptoRow.holds Try.pinned (OpenSpec.upto fnExactTableNewSpec)

/-- 'laws.FnExactTableOk', WHERE WHAT IT READS IS OF BULK AT MOST 1048576: true; the input reads as it did. -/
def fnExactTableOkUptoRow : OpenClaim := { program := "ytfonbakjfajbcaa", sum := "654314c9b0e17927c525bb56599c2369f47a4e81e231ee5aa27756af6dde6d84", func := "loop.example/flitting/laws.FnExactTableOk", spec := "fnExactTableOk", apart := false, narrowed := true }
def FnExactTableOkUptoSaid : Prop := fnExactTableOkUptoRow.holds Try.pinned (OpenSpec.upto fnExactTableOkSpec)

/-- 'laws.FnExactTableClose', WHERE WHAT IT READS IS OF BULK AT MOST 1048576: true; the input reads as it did. -/
def fnExactTableCloseUptoRow : OpenClaim := { program := "ytfonbakjfajbcaa", sum := "654314c9b0e17927c525bb56599c2369f47a4e81e231ee5aa27756af6dde6d84", func := "loop.example/flitting/laws.FnExactTableClose", spec := "fnExactTableClose", apart := false, narrowed := true }
def FnExactTableCloseUptoSaid : Prop := fnExactTableCloseUptoRow.holds Try.pinned (OpenSpec.upto fnExactTableCloseSpec)

/-- 'laws.FnExactTableDrop', WHERE WHAT IT READS IS OF BULK AT MOST 1048576: true; the input reads as it did. -/
def fnExactTableDropUptoRow : OpenClaim := { program := "ytfonbakjfajbcaa", sum := "654314c9b0e17927c525bb56599c2369f47a4e81e231ee5aa27756af6dde6d84", func := "loop.example/flitting/laws.FnExactTableDrop", spec := "fnExactTableDrop", apart := false, narrowed := true }
def FnExactTableDropUptoSaid : Prop := fnExactTableDropUptoRow.holds Try.pinned (OpenSpec.upto fnExactTableDropSpec)

/-- 'laws.FnExactTableTake', WHERE WHAT IT READS IS OF BULK AT MOST 1048576: true; the input reads as it did. -/
def fnExactTableTakeUptoRow : OpenClaim := { program := "ytfonbakjfajbcaa", sum := "654314c9b0e17927c525bb56599c2369f47a4e81e231ee5aa27756af6dde6d84", func := "loop.example/flitting/laws.FnExactTableTake", spec := "fnExactTableTake", unfollowed := true, recurses := true, apart := false, narrowed := true }
def FnExactTableTakeUptoSaid : Prop := fnExactTableTakeUptoRow.holds Try.pinned (OpenSpec.upto fnExactTableTakeSpec)

/-- 'laws.FnExactTableRoom', WHERE WHAT IT READS IS OF BULK AT MOST 1048576: true; the input reads as it did. -/
def fnExactTableRoomUptoRow : OpenClaim := { program := "ytfonbakjfajbcaa", sum := "654314c9b0e17927c525bb56599c2369f47a4e81e231ee5aa27756af6dde6d84", func := "loop.example/flitting/laws.FnExactTableRoom", spec := "fnExactTableRoom", unfollowed := true, recurses := true, apart := false, narrowed := true }
def FnExactTableRoomUptoSaid : Prop := fnExactTableRoomUptoRow.holds Try.pinned (OpenSpec.upto fnExactTableRoomSpec)

end Rows
end Go.Proofs.Ytfonbakjfajbcaa
