/- GraphNew of the program answers as the reference does, at every int, with new memory each time. No condition. -/
import Derived.Test.YtdaikmojalfimaaQFnExactGraphNewx3
namespace Go.Proofs.Ytdaikmojalfimaa.Pure
open Go.RowKit Go.Proofs.Ytdaikmojalfimaa.QFnExactGraphNew Go.Proofs.YtdaikmojalfimaaW.PrintWords Go.Proofs.YtdaikmojalfimaaW.PrintLast Go.Proofs.YtdaikmojalfimaaW.PrintMore
set_option linter.unusedVariables false
set_option linter.unusedSimpArgs false

theorem FnExactGraphNew (a : Int) (_ : (Lit.int .i64 a).wf = true) : ∃ k, laws_FnExactGraphNew.f k a = some true := by
  by_cases h : a < 1 ∨ 3 < a
  · refine ⟨20, ?_⟩
    unfold laws_FnExactGraphNew.f
    rw [show nRows a = [] from if_pos h, show rRows a = [] from if_pos h]
    kernel_rfl
  · have h3 : a = 1 ∨ a = 2 ∨ a = 3 := by omega
    rcases h3 with rfl | rfl | rfl <;> exact ⟨20, by kernel_rfl⟩

end Go.Proofs.Ytdaikmojalfimaa.Pure
