/- FnExactPathFrom: the row of the law, over its pure statement. No condition. -/
import Derived.Test.YtdaikmojalfimaaRows
import Derived.Test.YtdaikmojalfimaaQFnExactPathFromx8
import Derived.Test.YtdaikmojalfimaaPureFnExactPathFrom
import Derived.WalkKit
import Derived.ProofKit
import Derived.OpenShut
import Derived.ShutString
import Derived.ChangeOld
import Derived.Below
import Derived.SizedLaws
import Derived.Test.YtdaikmojalfimaaWSized
import Derived.Test.YtdaikmojalfimaaOpen
namespace Go.Proofs.Ytdaikmojalfimaa.fnExactPathFrom
open Go.ChangeShapes Go.WideShapes Go.ChangeAt Go.RowKit Go.Proofs.YtdaikmojalfimaaW.PrintWords
open Go.ChangeMaps (open_string shut_string)
set_option linter.unusedVariables false
theorem own : ownKnob Try.prog.godebug = none := by kernel_rfl
theorem laidOut : laidOutB Try.prog = true := by kernel_rfl
set_option maxRecDepth 100000 in
theorem lifted (os : Os) (started : os.Started) (H : Type) (enc : TypeId × Value → H) :
    ReturnsInHanded {} Try.checked os 7 .any (Rows.fnExactPathFromSpec.pre6 enc Try.prog Try.f7 Rows.fnExactPathFromRow.domain false) (Rows.fnExactPathFromSpec.post enc Try.prog Try.f7 false true false false) := by
  refine returnsInHanded_of_change_sized (C := Try.checked) own started (by kernel_rfl) Try.func7
    (ChangeSpec.witness6 (enc := enc) (C := Try.checked) false ⟨#[], #[.agg #[.slice none 0 0, .slice none 0 0, .slice none 0 0], .int .i64 0, .int .i64 0], []⟩ 8 (by kernel_rfl) (by kernel_rfl) (by kernel_rfl) (by kernel_rfl)) ?_
  intro W base args ds gs before hval0 hW hcnd hsz0 _
  have hval : ∀ (j : Nat) t v, Try.f7.params[j]? = some t → args[j]? = some v → Value.okWide Try.prog W .any base t v := hval0
  have hW' := hW
  obtain ⟨p, q, hA0, hV, rfl, hfz, hnd⟩ := hW
  have hA : DataW.TrodAll enc Try.prog W 0 (fun _ => true) true Try.f7.params.toList args.toList ds p := hA0
  rw [Try.params7] at hA hval
  obtain ⟨v0, vs0, d0, ds0, p0, q0, hargs, rfl, rfl, h0, r0⟩ := trodAll_cons hA
  obtain ⟨v1, vs1, d1, ds1, p1, q1, rfl, rfl, rfl, h1, r1⟩ := trodAll_cons r0
  obtain ⟨v2, vs2, d2, ds2, p2, q2, rfl, rfl, rfl, h2, r2⟩ := trodAll_cons r1
  obtain ⟨rfl, rfl, rfl⟩ := trodAll_nil r2
  obtain rfl : args = #[v0, v1, v2] := by cases args; simp_all
  obtain ⟨rfl, rfl⟩ := trodVars_none hV
  have k0 := h0
  have lt0 : ∀ x ∈ p0, x.block < W.heap.size := by obtain ⟨m, hm⟩ := k0; exact DataW.trod_lt m _ _ _ hm
  obtain ⟨cs0, rfl, _⟩ := okWide_struct Try.underlying34 (hval 0 34 v0 rfl rfl)
  obtain ⟨fuel0, hf0⟩ := h0
  obtain ⟨⟨y0_0, ⟨y0_1, y0_2⟩⟩, ⟨_, _, hcs0, ⟨A0_0, c0_0, rfl, hc0_0, hr0_0⟩, ⟨_, _, rfl, ⟨A0_1, c0_1, rfl, hc0_1, hr0_1⟩, ⟨A0_2, c0_2, rfl, hc0_2, hr0_2⟩⟩⟩, ⟨g0_0, ⟨g0_1, g0_2⟩⟩⟩ := (Open.opens_struct (tot := 3) Try.underlying34 (by kernel_rfl) (Open.opensFs_cons (c := 1) rfl (by kernel_rfl) (Open.opens_slice Try.underlying32 (by kernel_rfl) (Open.opens_iso (fun x : QFnExactPathFrom.S72 => (x.f0, x.f1)) (fun p => ⟨p.1, p.2⟩) (fun _ => rfl) (Open.opens_struct (tot := 2) Try.underlying72 (by kernel_rfl) (Open.opensFs_cons (c := 1) rfl (by kernel_rfl) (Open.opens_slice Try.underlying24 (by kernel_rfl) (Open.opens_int Try.underlying3)) (Open.opensFs_one rfl (by kernel_rfl) (Open.opens_slice Try.underlying24 (by kernel_rfl) (Open.opens_int Try.underlying3))))))) (Open.opensFs_cons (c := 1) rfl (by kernel_rfl) (Open.opens_slice Try.underlying23 (by kernel_rfl) (Open.opens_slice Try.underlying24 (by kernel_rfl) (Open.opens_int Try.underlying3))) (Open.opensFs_one rfl (by kernel_rfl) (Open.opens_slice Try.underlying24 (by kernel_rfl) (Open.opens_int Try.underlying3)))))) _ _ _ _ _ _ _ _ _ hf0
  obtain rfl : cs0 = #[.slice A0_0 y0_0.length c0_0, .slice A0_1 y0_1.length c0_1, .slice A0_2 y0_2.length c0_2] := by cases cs0; simpa [Value.cells] using hcs0
  obtain ⟨a1, rfl, rfl, rfl, w1⟩ := open_int Try.underlying3 (hval 1 3 v1 rfl rfl) h1
  obtain ⟨a2, rfl, rfl, rfl, w2⟩ := open_int Try.underlying3 (hval 2 3 v2 rfl rfl) h2
  clear hA0 hval0 hsz0
  obtain ⟨k, hk⟩ := Pure.FnExactPathFrom y0_0 y0_1 y0_2 a1 a2 g0_0 g0_1 g0_2 w1 w2
  refine (QFnExactPathFrom.laws_FnExactPathFrom.calls k A0_0 c0_0 y0_0 A0_1 c0_1 y0_1 A0_2 c0_2 y0_2 a1 a2 true W hr0_0 hc0_0 hr0_1 hc0_1 hr0_2 hc0_2 hk).mono fun e W' ⟨he, bel⟩ => ?_
  subst he
  exact ⟨_, rfl, _, _, _, [], _, [], hW', trodAll_mk1 (shut_bool Try.underlying4 _), (trodAll_cons_mk (Below.trod laidOut (by kernel_rfl) (of_decide_eq_true (by kernel_rfl)) k0 bel lt0) (trodAll_cons_mk (shut_int Try.underlying3 w1) (trodAll_cons_mk (shut_int Try.underlying3 w2) trodAll_mk0))), rfl, bel.frame _, fun h => by cases h⟩
theorem over : Rows.fnExactPathFromRow.holds Try.pinned (OpenSpec.ofChange Rows.fnExactPathFromSpec) :=
  OpenClaim.holds_of_wide 7 Try.f7 rfl rfl rfl rfl rfl rfl rfl ⟨rfl, rfl, rfl, rfl, rfl⟩ rfl rfl rfl rfl rfl (by kernel_rfl) Try.func7 (by kernel_rfl)
    (of_decide_eq_true (by kernel_rfl)) (by unfold Func.isWrapper; first | (rw [if_pos (by decide +kernel)]; kernel_rfl) | (rw [if_neg (by decide +kernel)]; exact ⟨rfl, rfl⟩))
    (fun os started H enc _ => lifted os started H enc)
theorem proved : Rows.FnExactPathFromSaid := over
#print axioms proved
end Go.Proofs.Ytdaikmojalfimaa.fnExactPathFrom
namespace Go.Proofs.Ytdaikmojalfimaa
/-- The row, under a short name, for the claim. -/
theorem fnExactPathFrom_holds : Rows.FnExactPathFromSaid := fnExactPathFrom.proved
end Go.Proofs.Ytdaikmojalfimaa
