/- ShapeOf of the program answers as the reference does, at every int. No condition. -/
import Derived.Test.YtpalgpgeicpaoaaPFnExactShapeOfx1
namespace Go.Proofs.Ytpalgpgeicpaoaa.Pure
open Go.RowKit Go.Proofs.Ytpalgpgeicpaoaa.PFnExactShapeOf Go.Proofs.YtpalgpgeicpaoaaW.PrintWords Go.Proofs.YtpalgpgeicpaoaaW.PrintLast
set_option linter.unusedVariables false
set_option linter.unusedSimpArgs false

theorem w64 {x : Int} (h0 : -9223372036854775808 ≤ x) (h1 : x ≤ 9223372036854775807) : wrap64 x = x := by
  unfold wrap64
  omega
theorem wnext (i : Nat) (h : i < 9223372036854775807) : wrap64 ((i : Int) + 1) = ((i + 1 : Nat) : Int) := by
  unfold wrap64
  omega
theorem rdOf_at {α : Type} (d : α) (l : List α) (i : Nat) (h : i < l.length) : rdOf d l (i : Int) = l[i] := by
  simp [rdOf, List.getD, h]
theorem rd_at (l : List Int) (i : Nat) (h : i < l.length) : rd l (i : Int) = l[i] := by
  simp [rd, List.getD, h]
theorem set_step {α : Type} (l m : List α) (i : Nat) (v : α) (hl : l.length = m.length) (hi : i < m.length) (hv : m[i]? = some v)
    (hp : ∀ j, j < i → l[j]? = m[j]?) : (l.set i v).length = m.length ∧ ∀ j, j < i + 1 → (l.set i v)[j]? = m[j]? := by
  refine ⟨by simp [hl], fun j hj => ?_⟩
  rw [List.getElem?_set]
  by_cases e : i = j
  · subst e
    rw [if_pos rfl, if_pos (by omega), hv]
  · rw [if_neg e]
    exact hp j (by omega)
theorem all_eq {α : Type} (l m : List α) (hl : l.length = m.length) (hp : ∀ j, j < m.length → l[j]? = m[j]?) : l = m := by
  apply List.ext_getElem?
  intro j
  by_cases hj : j < m.length
  · exact hp j hj
  · rw [List.getElem?_eq_none (by omega), List.getElem?_eq_none (by omega)]

theorem b64 {n : Int} (h : (Lit.int .i64 n).wf = true) : -9223372036854775808 ≤ n ∧ n ≤ 9223372036854775807 := by
  simp [Lit.wf, IntKind.min, IntKind.max, IntKind.signed, IntKind.bits] at h
  omega
theorem b8 {n : Int} (h : (Lit.int .u8 n).wf = true) : 0 ≤ n ∧ n ≤ 255 := by
  simp [Lit.wf, IntKind.min, IntKind.max, IntKind.signed, IntKind.bits] at h
  omega

theorem tdiv_nn {a : Int} (h : 0 ≤ a) (b : Int) : Int.tdiv a b = a / b := Int.tdiv_eq_ediv_of_nonneg h
theorem tmod_nn {a : Int} (h : 0 ≤ a) (b : Int) : Int.tmod a b = a % b := Int.tmod_eq_emod_of_nonneg h

theorem word_of (r n : Int) (hr : 0 ≤ r ∧ r ≤ 4) (hn : 0 ≤ n ∧ n ≤ 4) : spec_ShapeWord.f r n = some (16 * r + n) := by
  unfold spec_ShapeWord.f spec_ShapeOk.f
  rw [if_pos hr.1, if_pos hr.2, if_pos hn.1]
  simp only [Option.bind_some]
  rw [if_pos (by simp [hn.2]), w64 (x := 16 * r) (by omega) (by omega), w64 (by omega) (by omega)]
theorem loop1 (a r : Int) (hr : 0 ≤ r ∧ r ≤ 4) (d : Nat) : ∀ (k : Nat) (n : Int), 0 ≤ n → 5 - n = d →
    spec_ShapeOf.l1 (k + d + 1) a r n = if 16 * r + n ≤ a ∧ a ≤ 16 * r + 4 then some (r, a - 16 * r, true) else spec_ShapeOf.l0 k a (r + 1) := by
  induction d with
  | zero =>
    intro k n h0 hd
    simp only [Nat.add_zero, spec_ShapeOf.l1]
    rw [if_neg (by omega), if_neg (by omega), w64 (by omega) (by omega)]
  | succ d ih =>
    intro k n h0 hd
    rw [show k + (d + 1) + 1 = (k + d + 1) + 1 by omega, spec_ShapeOf.l1]
    rw [if_pos (by omega), word_of r n hr (by omega)]
    simp only [Option.bind_some]
    by_cases e : 16 * r + n = a
    · rw [if_pos e, if_pos (by omega), show a - 16 * r = n by omega]
    · have hi := ih k (n + 1) (by omega) (by omega)
      rw [if_neg e, w64 (by omega) (by omega)]
      refine Eq.trans hi ?_
      by_cases g : 16 * r + n ≤ a ∧ a ≤ 16 * r + 4
      · rw [if_pos g, if_pos (by omega)]
      · rw [if_neg g, if_neg (by omega)]
theorem loop0 (a : Int) (d : Nat) : ∀ (k : Nat) (r : Int), 0 ≤ r → 5 - r = d →
    spec_ShapeOf.l0 (k + 7 * d + 1) a r = if r ≤ a / 16 ∧ a / 16 ≤ 4 ∧ a % 16 ≤ 4 then some (a / 16, a % 16, true) else some (0, 0, false) := by
  induction d with
  | zero =>
    intro k r h0 hd
    simp only [spec_ShapeOf.l0]
    rw [if_neg (by omega), if_neg (by omega)]
  | succ d ih =>
    intro k r h0 hd
    rw [show k + 7 * (d + 1) + 1 = (k + 7 * d + 7) + 1 by omega, spec_ShapeOf.l0]
    rw [if_pos (by omega), show k + 7 * d + 7 = (k + 7 * d + 1) + 5 + 1 by omega, loop1 a r (by omega) 5 (k + 7 * d + 1) 0 (by omega) (by omega), ih k (r + 1) (by omega) (by omega)]
    by_cases e : 16 * r + 0 ≤ a ∧ a ≤ 16 * r + 4
    · rw [if_pos e, if_pos (by omega), show a / 16 = r by omega, show a % 16 = a - 16 * r by omega]
    · rw [if_neg e]
      by_cases g : r + 1 ≤ a / 16 ∧ a / 16 ≤ 4 ∧ a % 16 ≤ 4
      · rw [if_pos g, if_pos (by omega)]
      · rw [if_neg g, if_neg (by omega)]
theorem impl_eq (a : Int) (ha : a ≤ 9223372036854775807) : impl_ShapeOf.f a = if 0 ≤ a / 16 ∧ a / 16 ≤ 4 ∧ a % 16 ≤ 4 then some (a / 16, a % 16, true) else some (0, 0, false) := by
  unfold impl_ShapeOf.f
  by_cases h : a < 0
  · rw [if_pos h, if_neg (by omega)]
  have h0 : 0 ≤ a := by omega
  rw [if_neg h, tdiv_nn h0, tmod_nn h0, w64 (by omega) (by omega)]
  unfold impl_ShapeOk.f
  rw [if_pos (by omega)]
  by_cases g : a / 16 ≤ 4
  · rw [if_pos g, if_pos (by omega)]
    by_cases m : a % 16 ≤ 4
    · rw [if_pos (by omega)]
      simp [m]
    · rw [if_neg (by omega)]
      simp [m]
  · rw [if_neg g, if_neg (by omega)]
    rfl
theorem FnExactShapeOf : laws_FnExactShapeOf.Pure := by
  intro a ha
  have hb := b64 ha
  refine ⟨0 + 7 * 5 + 1, ?_⟩
  have hs : spec_ShapeOf.f (0 + 7 * 5 + 1) a = impl_ShapeOf.f a := by
    unfold spec_ShapeOf.f
    rw [loop0 a 5 0 0 (by omega) (by omega), impl_eq a hb.2]
  unfold laws_FnExactShapeOf.f
  rw [hs]
  obtain ⟨r, hr⟩ : ∃ r, impl_ShapeOf.f a = some r := by
    rw [impl_eq a hb.2]
    split <;> exact ⟨_, rfl⟩
  rw [hr]
  simp [laws_eqShape.f]

end Go.Proofs.Ytpalgpgeicpaoaa.Pure
