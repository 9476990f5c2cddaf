/- FnExactHistOk: the row of the law, over its pure statement. No condition. -/
import Derived.Test.YtnkcoooifjjmbaaRows
import Derived.Test.YtnkcoooifjjmbaaQFnExactHistOkx5
import Derived.Test.YtnkcoooifjjmbaaPureFnExactHistOk
import Derived.WalkKit
import Derived.ProofKit
import Derived.OpenShut
import Derived.ShutString
import Derived.ChangeOld
import Derived.Below
import Derived.SizedLaws
import Derived.Test.YtnkcoooifjjmbaaWSized
import Derived.Test.YtnkcoooifjjmbaaOpen
namespace Go.Proofs.Ytnkcoooifjjmbaa.fnExactHistOk
open Go.ChangeShapes Go.WideShapes Go.ChangeAt Go.RowKit Go.Proofs.YtnkcoooifjjmbaaW.PrintWords
open Go.ChangeMaps (open_string shut_string)
set_option linter.unusedVariables false
theorem own : ownKnob Try.prog.godebug = none := by kernel_rfl
theorem laidOut : laidOutB Try.prog = true := by kernel_rfl
set_option maxRecDepth 100000 in
theorem lifted (os : Os) (started : os.Started) (H : Type) (enc : TypeId × Value → H) :
    ReturnsInHanded {} Try.checked os 5 .any (Rows.fnExactHistOkSpec.pre6 enc Try.prog Try.f5 Rows.fnExactHistOkRow.domain false) (Rows.fnExactHistOkSpec.post enc Try.prog Try.f5 false true false false) := by
  refine returnsInHanded_of_change_sized (C := Try.checked) own started (by kernel_rfl) Try.func5
    (ChangeSpec.witness6 (enc := enc) (C := Try.checked) false ⟨#[], #[.agg #[.int .i64 0, .int .i64 0, .int .i64 0], .slice none 0 0, .slice none 0 0], []⟩ 8 (by kernel_rfl) (by kernel_rfl) (by kernel_rfl) (by kernel_rfl)) ?_
  intro W base args ds gs before hval0 hW hcnd hsz0 _
  have hval : ∀ (j : Nat) t v, Try.f5.params[j]? = some t → args[j]? = some v → Value.okWide Try.prog W .any base t v := hval0
  have hW' := hW
  obtain ⟨p, q, hA0, hV, rfl, hfz, hnd⟩ := hW
  have hA : DataW.TrodAll enc Try.prog W 0 (fun _ => true) true Try.f5.params.toList args.toList ds p := hA0
  rw [Try.params5] at hA hval
  obtain ⟨v0, vs0, d0, ds0, p0, q0, hargs, rfl, rfl, h0, r0⟩ := trodAll_cons hA
  obtain ⟨v1, vs1, d1, ds1, p1, q1, rfl, rfl, rfl, h1, r1⟩ := trodAll_cons r0
  obtain ⟨v2, vs2, d2, ds2, p2, q2, rfl, rfl, rfl, h2, r2⟩ := trodAll_cons r1
  obtain ⟨rfl, rfl, rfl⟩ := trodAll_nil r2
  obtain rfl : args = #[v0, v1, v2] := by cases args; simp_all
  obtain ⟨rfl, rfl⟩ := trodVars_none hV
  have k0 := h0
  have lt0 : ∀ x ∈ p0, x.block < W.heap.size := by obtain ⟨m, hm⟩ := k0; exact DataW.trod_lt m _ _ _ hm
  obtain ⟨cs0, rfl, _⟩ := okWide_struct Try.underlying34 (hval 0 34 v0 rfl rfl)
  obtain ⟨fuel0, hf0⟩ := h0
  obtain ⟨⟨y0_0, ⟨y0_1, y0_2⟩⟩, ⟨_, _, hcs0, rfl, ⟨_, _, rfl, rfl, rfl⟩⟩, ⟨g0_0, ⟨g0_1, g0_2⟩⟩⟩ := (Open.opens_struct (tot := 3) Try.underlying34 (by kernel_rfl) (Open.opensFs_cons (c := 1) rfl (by kernel_rfl) (Open.opens_int Try.underlying3) (Open.opensFs_cons (c := 1) rfl (by kernel_rfl) (Open.opens_int Try.underlying3) (Open.opensFs_one rfl (by kernel_rfl) (Open.opens_int Try.underlying3))))) _ _ _ _ _ _ _ _ _ hf0
  obtain rfl : cs0 = #[.int .i64 y0_0, .int .i64 y0_1, .int .i64 y0_2] := by cases cs0; simpa [Value.cells] using hcs0
  have k1 := h1
  have lt1 : ∀ x ∈ p1, x.block < W.heap.size := by obtain ⟨m, hm⟩ := k1; exact DataW.trod_lt m _ _ _ hm
  obtain ⟨A1, len1, c1, rfl⟩ := okWide_slice Try.underlying35 (hval 1 35 v1 rfl rfl)
  obtain ⟨fuel1, hf1⟩ := h1
  obtain ⟨l1, ⟨B1, e1, hcs1, hc1, hr1⟩, g1⟩ := (Open.opens_slice Try.underlying35 (by kernel_rfl) (Open.opens_slice Try.underlying62 (by kernel_rfl) (Open.opens_iso (fun x : QFnExactHistOk.S25 => (x.f0, x.f1, x.f2, x.f3, x.f4, x.f5, x.f6)) (fun p => ⟨p.1, p.2.1, p.2.2.1, p.2.2.2.1, p.2.2.2.2.1, p.2.2.2.2.2.1, p.2.2.2.2.2.2⟩) (fun _ => rfl) (Open.opens_struct (tot := 8) Try.underlying25 (by kernel_rfl) (Open.opensFs_cons (c := 1) rfl (by kernel_rfl) (Open.opens_int Try.underlying3) (Open.opensFs_cons (c := 1) rfl (by kernel_rfl) (Open.opens_int Try.underlying3) (Open.opensFs_cons (c := 1) rfl (by kernel_rfl) (Open.opens_int Try.underlying3) (Open.opensFs_cons (c := 1) rfl (by kernel_rfl) (Open.opens_int Try.underlying3) (Open.opensFs_cons (c := 1) rfl (by kernel_rfl) (Open.opens_int Try.underlying3) (Open.opensFs_cons (c := 1) rfl (by kernel_rfl) (Open.opens_int Try.underlying3) (Open.opensFs_one rfl (by kernel_rfl) (Open.opens_iso (fun x : QFnExactHistOk.S23 => (x.f0, x.f1)) (fun p => ⟨p.1, p.2⟩) (fun _ => rfl) (Open.opens_struct (tot := 2) Try.underlying23 (by kernel_rfl) (Open.opensFs_cons (c := 1) rfl (by kernel_rfl) (Open.opens_int Try.underlying3) (Open.opensFs_one rfl (by kernel_rfl) (Open.opens_int Try.underlying3)))))))))))))))) _ _ _ _ _ _ _ _ _ hf1
  simp only [Value.cells, List.cons.injEq, Value.slice.injEq, and_true] at hcs1
  obtain ⟨rfl, rfl, rfl⟩ := hcs1
  have k2 := h2
  have lt2 : ∀ x ∈ p2, x.block < W.heap.size := by obtain ⟨m, hm⟩ := k2; exact DataW.trod_lt m _ _ _ hm
  obtain ⟨A2, len2, c2, rfl⟩ := okWide_slice Try.underlying47 (hval 2 47 v2 rfl rfl)
  obtain ⟨fuel2, hf2⟩ := h2
  obtain ⟨l2, ⟨B2, e2, hcs2, hc2, hr2⟩, g2⟩ := (Open.opens_slice Try.underlying47 (by kernel_rfl) (Open.opens_iso (fun x : QFnExactHistOk.S71 => (x.f0, x.f1, x.f2, x.f3, x.f4, x.f5)) (fun p => ⟨p.1, p.2.1, p.2.2.1, p.2.2.2.1, p.2.2.2.2.1, p.2.2.2.2.2⟩) (fun _ => rfl) (Open.opens_struct (tot := 6) Try.underlying71 (by kernel_rfl) (Open.opensFs_cons (c := 1) rfl (by kernel_rfl) (Open.opens_int Try.underlying3) (Open.opensFs_cons (c := 1) rfl (by kernel_rfl) (Open.opens_int Try.underlying3) (Open.opensFs_cons (c := 1) rfl (by kernel_rfl) (Open.opens_int Try.underlying3) (Open.opensFs_cons (c := 1) rfl (by kernel_rfl) (Open.opens_int Try.underlying3) (Open.opensFs_cons (c := 1) rfl (by kernel_rfl) (Open.opens_int Try.underlying3) (Open.opensFs_one rfl (by kernel_rfl) (Open.opens_int Try.underlying3)))))))))) _ _ _ _ _ _ _ _ _ hf2
  simp only [Value.cells, List.cons.injEq, Value.slice.injEq, and_true] at hcs2
  obtain ⟨rfl, rfl, rfl⟩ := hcs2
  clear hA0 hval0 hsz0
  obtain ⟨k, hk⟩ := Pure.FnExactHistOk y0_0 y0_1 y0_2 l1 l2 g0_0 g0_1 g0_2 g1 g2
  refine (QFnExactHistOk.laws_FnExactHistOk.calls k y0_0 y0_1 y0_2 A1 c1 l1 A2 c2 l2 true W hr1 hc1 hr2 hc2 hk).mono fun e W' ⟨he, bel⟩ => ?_
  subst he
  exact ⟨_, rfl, _, _, _, [], _, [], hW', trodAll_mk1 (shut_bool Try.underlying4 _), (trodAll_cons_mk (Below.trod laidOut (by kernel_rfl) (of_decide_eq_true (by kernel_rfl)) k0 bel lt0) (trodAll_cons_mk (Below.trod laidOut (by kernel_rfl) (of_decide_eq_true (by kernel_rfl)) k1 bel lt1) (trodAll_cons_mk (Below.trod laidOut (by kernel_rfl) (of_decide_eq_true (by kernel_rfl)) k2 bel lt2) trodAll_mk0))), rfl, bel.frame _, fun h => by cases h⟩
theorem over : Rows.fnExactHistOkRow.holds Try.pinned (OpenSpec.ofChange Rows.fnExactHistOkSpec) :=
  OpenClaim.holds_of_wide 5 Try.f5 rfl rfl rfl rfl rfl rfl rfl ⟨rfl, rfl, rfl, rfl, rfl⟩ rfl rfl rfl rfl rfl (by kernel_rfl) Try.func5 (by kernel_rfl)
    (of_decide_eq_true (by kernel_rfl)) (by unfold Func.isWrapper; first | (rw [if_pos (by decide +kernel)]; kernel_rfl) | (rw [if_neg (by decide +kernel)]; exact ⟨rfl, rfl⟩))
    (fun os started H enc _ => lifted os started H enc)
theorem proved : Rows.FnExactHistOkSaid := over
#print axioms proved
end Go.Proofs.Ytnkcoooifjjmbaa.fnExactHistOk
namespace Go.Proofs.Ytnkcoooifjjmbaa
/-- The row, under a short name, for the claim. -/
theorem fnExactHistOk_holds : Rows.FnExactHistOkSaid := fnExactHistOk.proved
end Go.Proofs.Ytnkcoooifjjmbaa
