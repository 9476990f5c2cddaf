/-
  DERIVED. GIVEN WITH THE SEED: THE CARDS: each row of YtnkcoooifjjmbaaDoorRows.lean that lists a variable, with what it lists TIED to the program's text (the seventh form; the later family's looks); each row that meets fmt, with fmt's text TOLD by the authors' own Lean function (tested against real Go, not proved from fmt's source: count such statements apart). THE CARD IS WHAT COUNTS. Prove the row's statement (the work); the ties are given (YtnkcoooifjjmbaaDoorTie.lean); close each card by the builder's one call (the guide's Derived/Test/ToyasCard.lean, 'card_holds'). Laid BY PROGRAM, IN A SANDBOX (cutbox-door.mjs). By AI agents, Wed Nov 11 2026. No macro, syntax, notation, axiom, sorry.
-/
import Derived.Test.YtnkcoooifjjmbaaDoorRows
import GoSem.ClaimSeven
namespace Go.Proofs.YtnkcoooifjjmbaaDoor
namespace Rows

/-- THE TIED CARD OF 'laws.FnExactOpText'. -/
def fnExactOpTextCard : Claim7 := { stood := { row := fnExactOpTextRow, standIns := [], harness := (true, "5e9936cb6d56f84b1196854ec67addd891787114357f8ac61254379f3e1d8483"), looks := false }, kinds := [], alts := [], laidByText := true, laidKinds := [.data, .data, .data], laidTests := true, laidLooks := .later }
def FnExactOpTextCardSaid : Prop := Claim7.holds Tryd.pinned (.plain (OpenSpec.ofChange fnExactOpTextSpec)) fnExactOpTextCard

/-- THE TIED CARD OF 'laws.FnExactPicksText'. -/
def fnExactPicksTextCard : Claim7 := { stood := { row := fnExactPicksTextRow, standIns := [], harness := (true, "5e9936cb6d56f84b1196854ec67addd891787114357f8ac61254379f3e1d8483"), looks := false }, kinds := [], alts := [], laidByText := true, laidKinds := [.data, .data, .data], laidTests := true, laidLooks := .later }
def FnExactPicksTextCardSaid : Prop := Claim7.holds Tryd.pinned (.plain (OpenSpec.ofChange fnExactPicksTextSpec)) fnExactPicksTextCard

/-- THE SECOND FORM's CARD OF 'laws.FnExactOpText'. -/
def fnExactOpTextUptoCard : Claim7 := { stood := { row := fnExactOpTextUptoRow, standIns := [], harness := (true, "5e9936cb6d56f84b1196854ec67addd891787114357f8ac61254379f3e1d8483"), looks := false }, kinds := [], alts := [], laidByText := true, laidKinds := [.data, .data, .data], laidTests := true, laidLooks := .later }
def FnExactOpTextUptoCardSaid : Prop := Claim7.holds Tryd.pinned (.plain (OpenSpec.upto fnExactOpTextSpec)) fnExactOpTextUptoCard

/-- THE SECOND FORM's CARD OF 'laws.FnExactPicksText'. -/
def fnExactPicksTextUptoCard : Claim7 := { stood := { row := fnExactPicksTextUptoRow, standIns := [], harness := (true, "5e9936cb6d56f84b1196854ec67addd891787114357f8ac61254379f3e1d8483"), looks := false }, kinds := [], alts := [], laidByText := true, laidKinds := [.data, .data, .data], laidTests := true, laidLooks := .later }
def FnExactPicksTextUptoCardSaid : Prop := Claim7.holds Tryd.pinned (.plain (OpenSpec.upto fnExactPicksTextSpec)) fnExactPicksTextUptoCard
end Rows
end Go.Proofs.YtnkcoooifjjmbaaDoor
