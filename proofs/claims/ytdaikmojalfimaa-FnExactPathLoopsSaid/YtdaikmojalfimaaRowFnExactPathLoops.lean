/- FnExactPathLoops: the row of the law, over its pure statement. No condition. -/
import Derived.Test.YtdaikmojalfimaaRows
import Derived.Test.YtdaikmojalfimaaQFnExactPathLoopsx10
import Derived.Test.YtdaikmojalfimaaPureFnExactPathLoops
import Derived.WalkKit
import Derived.ProofKit
import Derived.OpenShut
import Derived.ShutString
import Derived.ChangeOld
import Derived.Below
import Derived.SizedLaws
import Derived.Test.YtdaikmojalfimaaWSized
import Derived.Test.YtdaikmojalfimaaOpen
namespace Go.Proofs.Ytdaikmojalfimaa.fnExactPathLoops
open Go.ChangeShapes Go.WideShapes Go.ChangeAt Go.RowKit Go.Proofs.YtdaikmojalfimaaW.PrintWords
open Go.ChangeMaps (open_string shut_string)
set_option linter.unusedVariables false
theorem own : ownKnob Try.prog.godebug = none := by kernel_rfl
theorem laidOut : laidOutB Try.prog = true := by kernel_rfl
set_option maxRecDepth 100000 in
theorem lifted (os : Os) (started : os.Started) (H : Type) (enc : TypeId × Value → H) :
    ReturnsInHanded {} Try.checked os 6 .any (Rows.fnExactPathLoopsSpec.pre6 enc Try.prog Try.f6 Rows.fnExactPathLoopsRow.domain false) (Rows.fnExactPathLoopsSpec.post enc Try.prog Try.f6 false true false false) := by
  refine returnsInHanded_of_change_sized (C := Try.checked) own started (by kernel_rfl) Try.func6
    (ChangeSpec.witness6 (enc := enc) (C := Try.checked) false ⟨#[], #[.agg #[.slice none 0 0, .slice none 0 0, .slice none 0 0]], []⟩ 8 (by kernel_rfl) (by kernel_rfl) (by kernel_rfl) (by kernel_rfl)) ?_
  intro W base args ds gs before hval0 hW hcnd hsz0 _
  have hval : ∀ (j : Nat) t v, Try.f6.params[j]? = some t → args[j]? = some v → Value.okWide Try.prog W .any base t v := hval0
  have hW' := hW
  obtain ⟨p, q, hA0, hV, rfl, hfz, hnd⟩ := hW
  have hA : DataW.TrodAll enc Try.prog W 0 (fun _ => true) true Try.f6.params.toList args.toList ds p := hA0
  rw [Try.params6] at hA hval
  obtain ⟨v0, vs0, d0, ds0, p0, q0, hargs, rfl, rfl, h0, r0⟩ := trodAll_cons hA
  obtain ⟨rfl, rfl, rfl⟩ := trodAll_nil r0
  obtain rfl : args = #[v0] := by cases args; simp_all
  obtain ⟨rfl, rfl⟩ := trodVars_none hV
  have k0 := h0
  have lt0 : ∀ x ∈ p0, x.block < W.heap.size := by obtain ⟨m, hm⟩ := k0; exact DataW.trod_lt m _ _ _ hm
  obtain ⟨cs0, rfl, _⟩ := okWide_struct Try.underlying34 (hval 0 34 v0 rfl rfl)
  obtain ⟨fuel0, hf0⟩ := h0
  obtain ⟨⟨y0_0, ⟨y0_1, y0_2⟩⟩, ⟨_, _, hcs0, ⟨A0_0, c0_0, rfl, hc0_0, hr0_0⟩, ⟨_, _, rfl, ⟨A0_1, c0_1, rfl, hc0_1, hr0_1⟩, ⟨A0_2, c0_2, rfl, hc0_2, hr0_2⟩⟩⟩, ⟨g0_0, ⟨g0_1, g0_2⟩⟩⟩ := (Open.opens_struct (tot := 3) Try.underlying34 (by kernel_rfl) (Open.opensFs_cons (c := 1) rfl (by kernel_rfl) (Open.opens_slice Try.underlying32 (by kernel_rfl) (Open.opens_iso (fun x : QFnExactPathLoops.S72 => (x.f0, x.f1)) (fun p => ⟨p.1, p.2⟩) (fun _ => rfl) (Open.opens_struct (tot := 2) Try.underlying72 (by kernel_rfl) (Open.opensFs_cons (c := 1) rfl (by kernel_rfl) (Open.opens_slice Try.underlying24 (by kernel_rfl) (Open.opens_int Try.underlying3)) (Open.opensFs_one rfl (by kernel_rfl) (Open.opens_slice Try.underlying24 (by kernel_rfl) (Open.opens_int Try.underlying3))))))) (Open.opensFs_cons (c := 1) rfl (by kernel_rfl) (Open.opens_slice Try.underlying23 (by kernel_rfl) (Open.opens_slice Try.underlying24 (by kernel_rfl) (Open.opens_int Try.underlying3))) (Open.opensFs_one rfl (by kernel_rfl) (Open.opens_slice Try.underlying24 (by kernel_rfl) (Open.opens_int Try.underlying3)))))) _ _ _ _ _ _ _ _ _ hf0
  obtain rfl : cs0 = #[.slice A0_0 y0_0.length c0_0, .slice A0_1 y0_1.length c0_1, .slice A0_2 y0_2.length c0_2] := by cases cs0; simpa [Value.cells] using hcs0
  clear hA0 hval0 hsz0
  obtain ⟨k, hk⟩ := Pure.FnExactPathLoops y0_0 y0_1 y0_2 g0_0 g0_1 g0_2
  refine (QFnExactPathLoops.laws_FnExactPathLoops.calls k A0_0 c0_0 y0_0 A0_1 c0_1 y0_1 A0_2 c0_2 y0_2 true W hr0_0 hc0_0 hr0_1 hc0_1 hr0_2 hc0_2 hk).mono fun e W' ⟨he, bel⟩ => ?_
  subst he
  exact ⟨_, rfl, _, _, _, [], _, [], hW', trodAll_mk1 (shut_bool Try.underlying4 _), (trodAll_cons_mk (Below.trod laidOut (by kernel_rfl) (of_decide_eq_true (by kernel_rfl)) k0 bel lt0) trodAll_mk0), rfl, bel.frame _, fun h => by cases h⟩
theorem over : Rows.fnExactPathLoopsRow.holds Try.pinned (OpenSpec.ofChange Rows.fnExactPathLoopsSpec) :=
  OpenClaim.holds_of_wide 6 Try.f6 rfl rfl rfl rfl rfl rfl rfl ⟨rfl, rfl, rfl, rfl, rfl⟩ rfl rfl rfl rfl rfl (by kernel_rfl) Try.func6 (by kernel_rfl)
    (of_decide_eq_true (by kernel_rfl)) (by unfold Func.isWrapper; first | (rw [if_pos (by decide +kernel)]; kernel_rfl) | (rw [if_neg (by decide +kernel)]; exact ⟨rfl, rfl⟩))
    (fun os started H enc _ => lifted os started H enc)
theorem proved : Rows.FnExactPathLoopsSaid := over
#print axioms proved
end Go.Proofs.Ytdaikmojalfimaa.fnExactPathLoops
namespace Go.Proofs.Ytdaikmojalfimaa
/-- The row, under a short name, for the claim. -/
theorem fnExactPathLoops_holds : Rows.FnExactPathLoopsSaid := fnExactPathLoops.proved
end Go.Proofs.Ytdaikmojalfimaa
