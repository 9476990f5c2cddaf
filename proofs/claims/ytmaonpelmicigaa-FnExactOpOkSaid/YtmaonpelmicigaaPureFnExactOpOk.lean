/- OpOk of the program answers as the reference does, at every operation. No condition. -/
import Derived.Test.YtmaonpelmicigaaPFnExactOpOkx1
namespace Go.Proofs.Ytmaonpelmicigaa.Pure
open Go.RowKit Go.Proofs.Ytmaonpelmicigaa.PFnExactOpOk Go.Proofs.YtmaonpelmicigaaW.PrintWords Go.Proofs.YtmaonpelmicigaaW.PrintLast

theorem shape_some (a b : Int) : ∃ r, spec_ShapeOk.f a b = some r := by
  unfold spec_ShapeOk.f
  repeat (first | exact ⟨_, rfl⟩ | split)
theorem some_of (a b c d e f g h : Int) : ∃ r, spec_OpOk.f a b c d e f g h = some r := by
  unfold spec_OpOk.f
  obtain ⟨r, hr⟩ := shape_some g h
  rw [hr]
  simp only [Option.bind_some]
  repeat (first | exact ⟨_, rfl⟩ | split)
theorem FnExactOpOk (a b c d e f g h : Int) (_ : (Lit.int .i64 a).wf = true) (_ : (Lit.int .i64 b).wf = true) (_ : (Lit.int .i64 c).wf = true) (_ : (Lit.int .i64 d).wf = true) (_ : (Lit.int .i64 e).wf = true) (_ : (Lit.int .i64 f).wf = true) (_ : (Lit.int .i64 g).wf = true) (_ : (Lit.int .i64 h).wf = true) : laws_FnExactOpOk.f a b c d e f g h = some true := by
  obtain ⟨r, hr⟩ := some_of a b c d e f g h
  have hi : impl_OpOk.f a b c d e f g h = some r := hr
  unfold laws_FnExactOpOk.f laws_toOp.f laws_toShape.f
  simp only [Option.bind_some]
  rw [hr]
  simp only [Option.bind_some]
  rw [hi]
  simp

end Go.Proofs.Ytmaonpelmicigaa.Pure
