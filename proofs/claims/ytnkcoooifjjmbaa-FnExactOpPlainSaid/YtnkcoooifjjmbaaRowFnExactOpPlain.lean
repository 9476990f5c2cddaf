/- FnExactOpPlain: the row of the law, over its pure statement. No condition. -/
import Derived.Test.YtnkcoooifjjmbaaRows
import Derived.Test.YtnkcoooifjjmbaaQFnExactOpPlainx1
import Derived.Test.YtnkcoooifjjmbaaPureFnExactOpPlain
import Derived.WalkKit
import Derived.ProofKit
import Derived.OpenShut
import Derived.ShutString
import Derived.ChangeOld
import Derived.Below
import Derived.SizedLaws
import Derived.Test.YtnkcoooifjjmbaaWSized
import Derived.Test.YtnkcoooifjjmbaaOpen
namespace Go.Proofs.Ytnkcoooifjjmbaa.fnExactOpPlain
open Go.ChangeShapes Go.WideShapes Go.ChangeAt Go.RowKit Go.Proofs.YtnkcoooifjjmbaaW.PrintWords
open Go.ChangeMaps (open_string shut_string)
set_option linter.unusedVariables false
theorem own : ownKnob Try.prog.godebug = none := by kernel_rfl
theorem laidOut : laidOutB Try.prog = true := by kernel_rfl
set_option maxRecDepth 100000 in
theorem lifted (os : Os) (started : os.Started) (H : Type) (enc : TypeId × Value → H) :
    ReturnsInHanded {} Try.checked os 3 .any (Rows.fnExactOpPlainSpec.pre6 enc Try.prog Try.f3 Rows.fnExactOpPlainRow.domain false) (Rows.fnExactOpPlainSpec.post enc Try.prog Try.f3 false true false false) := by
  refine returnsInHanded_of_change_sized (C := Try.checked) own started (by kernel_rfl) Try.func3
    (ChangeSpec.witness6 (enc := enc) (C := Try.checked) false ⟨#[], #[.agg #[.int .i64 0, .int .i64 0, .int .i64 0, .int .i64 0, .int .i64 0, .int .i64 0, .int .i64 0, .int .i64 0]], []⟩ 8 (by kernel_rfl) (by kernel_rfl) (by kernel_rfl) (by kernel_rfl)) ?_
  intro W base args ds gs before hval0 hW hcnd hsz0 _
  have hval : ∀ (j : Nat) t v, Try.f3.params[j]? = some t → args[j]? = some v → Value.okWide Try.prog W .any base t v := hval0
  have hW' := hW
  obtain ⟨p, q, hA0, hV, rfl, hfz, hnd⟩ := hW
  have hA : DataW.TrodAll enc Try.prog W 0 (fun _ => true) true Try.f3.params.toList args.toList ds p := hA0
  rw [Try.params3] at hA hval
  obtain ⟨v0, vs0, d0, ds0, p0, q0, hargs, rfl, rfl, h0, r0⟩ := trodAll_cons hA
  obtain ⟨rfl, rfl, rfl⟩ := trodAll_nil r0
  obtain rfl : args = #[v0] := by cases args; simp_all
  obtain ⟨rfl, rfl⟩ := trodVars_none hV
  have k0 := h0
  have lt0 : ∀ x ∈ p0, x.block < W.heap.size := by obtain ⟨m, hm⟩ := k0; exact DataW.trod_lt m _ _ _ hm
  obtain ⟨cs0, rfl, _⟩ := okWide_struct Try.underlying25 (hval 0 25 v0 rfl rfl)
  obtain ⟨fuel0, hf0⟩ := h0
  obtain ⟨⟨y0_0, ⟨y0_1, ⟨y0_2, ⟨y0_3, ⟨y0_4, ⟨y0_5, ⟨y0_6, y0_7⟩⟩⟩⟩⟩⟩⟩, ⟨_, _, hcs0, rfl, ⟨_, _, rfl, rfl, ⟨_, _, rfl, rfl, ⟨_, _, rfl, rfl, ⟨_, _, rfl, rfl, ⟨_, _, rfl, rfl, ⟨_, _, rfl, rfl, rfl⟩⟩⟩⟩⟩⟩⟩, ⟨g0_0, ⟨g0_1, ⟨g0_2, ⟨g0_3, ⟨g0_4, ⟨g0_5, ⟨g0_6, g0_7⟩⟩⟩⟩⟩⟩⟩⟩ := (Open.opens_struct (tot := 8) Try.underlying25 (by kernel_rfl) (Open.opensFs_cons (c := 1) rfl (by kernel_rfl) (Open.opens_int Try.underlying3) (Open.opensFs_cons (c := 1) rfl (by kernel_rfl) (Open.opens_int Try.underlying3) (Open.opensFs_cons (c := 1) rfl (by kernel_rfl) (Open.opens_int Try.underlying3) (Open.opensFs_cons (c := 1) rfl (by kernel_rfl) (Open.opens_int Try.underlying3) (Open.opensFs_cons (c := 1) rfl (by kernel_rfl) (Open.opens_int Try.underlying3) (Open.opensFs_cons (c := 1) rfl (by kernel_rfl) (Open.opens_int Try.underlying3) (Open.opensFs_one rfl (by kernel_rfl) (Open.opens_struct (tot := 2) Try.underlying23 (by kernel_rfl) (Open.opensFs_cons (c := 1) rfl (by kernel_rfl) (Open.opens_int Try.underlying3) (Open.opensFs_one rfl (by kernel_rfl) (Open.opens_int Try.underlying3)))))))))))) _ _ _ _ _ _ _ _ _ hf0
  obtain rfl : cs0 = #[.int .i64 y0_0, .int .i64 y0_1, .int .i64 y0_2, .int .i64 y0_3, .int .i64 y0_4, .int .i64 y0_5, .int .i64 y0_6, .int .i64 y0_7] := by cases cs0; simpa [Value.cells] using hcs0
  clear hA0 hval0 hsz0
  have hk := Pure.FnExactOpPlain y0_0 y0_1 y0_2 y0_3 y0_4 y0_5 y0_6 y0_7 g0_0 g0_1 g0_2 g0_3 g0_4 g0_5 g0_6 g0_7
  refine (QFnExactOpPlain.laws_FnExactOpPlain.calls y0_0 y0_1 y0_2 y0_3 y0_4 y0_5 y0_6 y0_7 true W  hk).mono fun e W' ⟨he, bel⟩ => ?_
  subst he
  exact ⟨_, rfl, _, _, _, [], _, [], hW', trodAll_mk1 (shut_bool Try.underlying4 _), (trodAll_cons_mk (Below.trod laidOut (by kernel_rfl) (of_decide_eq_true (by kernel_rfl)) k0 bel lt0) trodAll_mk0), rfl, bel.frame _, fun h => by cases h⟩
theorem over : Rows.fnExactOpPlainRow.holds Try.pinned (OpenSpec.ofChange Rows.fnExactOpPlainSpec) :=
  OpenClaim.holds_of_wide 3 Try.f3 rfl rfl rfl rfl rfl rfl rfl ⟨rfl, rfl, rfl, rfl, rfl⟩ rfl rfl rfl rfl rfl (by kernel_rfl) Try.func3 (by kernel_rfl)
    (of_decide_eq_true (by kernel_rfl)) (by unfold Func.isWrapper; first | (rw [if_pos (by decide +kernel)]; kernel_rfl) | (rw [if_neg (by decide +kernel)]; exact ⟨rfl, rfl⟩))
    (fun os started H enc _ => lifted os started H enc)
theorem proved : Rows.FnExactOpPlainSaid := over
#print axioms proved
end Go.Proofs.Ytnkcoooifjjmbaa.fnExactOpPlain
namespace Go.Proofs.Ytnkcoooifjjmbaa
/-- The row, under a short name, for the claim. -/
theorem fnExactOpPlain_holds : Rows.FnExactOpPlainSaid := fnExactOpPlain.proved
end Go.Proofs.Ytnkcoooifjjmbaa
