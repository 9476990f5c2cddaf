/- Every constant of the program has the value that the document names: the call answers true. No condition. -/
import Derived.Test.YtmaonpelmicigaaPFnExactConstantsx1
namespace Go.Proofs.Ytmaonpelmicigaa.Pure
open Go.RowKit Go.Proofs.Ytmaonpelmicigaa.PFnExactConstants Go.Proofs.YtmaonpelmicigaaW.PrintWords Go.Proofs.YtmaonpelmicigaaW.PrintLast

theorem FnExactConstants : laws_FnExactConstants.Pure := rfl

end Go.Proofs.Ytmaonpelmicigaa.Pure
