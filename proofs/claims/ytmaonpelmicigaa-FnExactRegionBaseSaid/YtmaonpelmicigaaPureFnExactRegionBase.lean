/- RegionBase of the program answers as the reference does, at every int. No condition. -/
import Derived.Test.YtmaonpelmicigaaPFnExactRegionBasex1
namespace Go.Proofs.Ytmaonpelmicigaa.Pure
open Go.RowKit Go.Proofs.Ytmaonpelmicigaa.PFnExactRegionBase Go.Proofs.YtmaonpelmicigaaW.PrintWords Go.Proofs.YtmaonpelmicigaaW.PrintLast

theorem FnExactRegionBase : laws_FnExactRegionBase.Pure := by
  intro a0 _
  obtain ⟨r, hr⟩ : ∃ r, spec_RegionBase.f a0 = some r := by
    unfold spec_RegionBase.f
    split
    · exact ⟨_, rfl⟩
    · split <;> exact ⟨_, rfl⟩
  have hi : impl_RegionBase.f a0 = some r := hr
  unfold laws_FnExactRegionBase.f
  rw [hr, hi]
  simp

end Go.Proofs.Ytmaonpelmicigaa.Pure
