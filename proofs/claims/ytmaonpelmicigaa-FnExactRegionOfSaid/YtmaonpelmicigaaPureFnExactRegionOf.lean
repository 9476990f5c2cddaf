/- RegionOf of the program answers as the reference does, at every int. No condition. -/
import Derived.Test.YtmaonpelmicigaaPFnExactRegionOfx1
namespace Go.Proofs.Ytmaonpelmicigaa.Pure
open Go.RowKit Go.Proofs.Ytmaonpelmicigaa.PFnExactRegionOf Go.Proofs.YtmaonpelmicigaaW.PrintWords Go.Proofs.YtmaonpelmicigaaW.PrintLast

theorem FnExactRegionOf : laws_FnExactRegionOf.Pure := by
  intro a0 _
  obtain ⟨r, hr⟩ : ∃ r, spec_RegionOf.f a0 = some r := by
    unfold spec_RegionOf.f
    split <;> exact ⟨_, rfl⟩
  have hi : impl_RegionOf.f a0 = some r := hr
  unfold laws_FnExactRegionOf.f
  rw [hr, hi]
  simp

end Go.Proofs.Ytmaonpelmicigaa.Pure
