/- ShapeWord of the program answers as the reference does, at every argument. No condition. -/
import Derived.Test.YtmaonpelmicigaaPFnExactShapeWordx1
namespace Go.Proofs.Ytmaonpelmicigaa.Pure
open Go.RowKit Go.Proofs.Ytmaonpelmicigaa.PFnExactShapeWord Go.Proofs.YtmaonpelmicigaaW.PrintWords Go.Proofs.YtmaonpelmicigaaW.PrintLast

theorem w64 {x : Int} (h0 : -9223372036854775808 ≤ x) (h1 : x ≤ 9223372036854775807) : wrap64 x = x := by
  unfold wrap64
  omega
theorem wnext (i : Nat) (h : i < 9223372036854775807) : wrap64 ((i : Int) + 1) = ((i + 1 : Nat) : Int) := by
  unfold wrap64
  omega
theorem rdOf_at {α : Type} (d : α) (l : List α) (i : Nat) (h : i < l.length) : rdOf d l (i : Int) = l[i] := by
  simp [rdOf, List.getD, h]
theorem rd_at (l : List Int) (i : Nat) (h : i < l.length) : rd l (i : Int) = l[i] := by
  simp [rd, List.getD, h]
theorem set_step {α : Type} (l m : List α) (i : Nat) (v : α) (hl : l.length = m.length) (hi : i < m.length) (hv : m[i]? = some v)
    (hp : ∀ j, j < i → l[j]? = m[j]?) : (l.set i v).length = m.length ∧ ∀ j, j < i + 1 → (l.set i v)[j]? = m[j]? := by
  refine ⟨by simp [hl], fun j hj => ?_⟩
  rw [List.getElem?_set]
  by_cases e : i = j
  · subst e
    rw [if_pos rfl, if_pos (by omega), hv]
  · rw [if_neg e]
    exact hp j (by omega)
theorem all_eq {α : Type} (l m : List α) (hl : l.length = m.length) (hp : ∀ j, j < m.length → l[j]? = m[j]?) : l = m := by
  apply List.ext_getElem?
  intro j
  by_cases hj : j < m.length
  · exact hp j hj
  · rw [List.getElem?_eq_none (by omega), List.getElem?_eq_none (by omega)]

theorem b64 {n : Int} (h : (Lit.int .i64 n).wf = true) : -9223372036854775808 ≤ n ∧ n ≤ 9223372036854775807 := by
  simp [Lit.wf, IntKind.min, IntKind.max, IntKind.signed, IntKind.bits] at h
  omega
theorem b8 {n : Int} (h : (Lit.int .u8 n).wf = true) : 0 ≤ n ∧ n ≤ 255 := by
  simp [Lit.wf, IntKind.min, IntKind.max, IntKind.signed, IntKind.bits] at h
  omega

theorem some_of (a b : Int) : ∃ r, spec_ShapeWord.f a b = some r := by
  unfold spec_ShapeWord.f spec_ShapeOk.f
  by_cases h1 : a ≥ 0 <;> by_cases h2 : a ≤ 4 <;> by_cases h3 : b ≥ 0 <;> by_cases h4 : b ≤ 4 <;> simp [h1, h2, h3, h4]
theorem FnExactShapeWord (a b : Int) (_ : (Lit.int .i64 a).wf = true) (_ : (Lit.int .i64 b).wf = true) : laws_FnExactShapeWord.f a b = some true := by
  obtain ⟨r, hr⟩ := some_of a b
  have hi : impl_ShapeWord.f a b = some r := hr
  unfold laws_FnExactShapeWord.f laws_toShape.f
  simp only [Option.bind_some]
  rw [hr]
  simp only [Option.bind_some]
  rw [hi]
  simp

end Go.Proofs.Ytmaonpelmicigaa.Pure
