/- OpPlain of the program answers as the reference does, at every operation. No condition. -/
import Derived.Test.YtnkcoooifjjmbaaQFnExactOpPlainx1
namespace Go.Proofs.Ytnkcoooifjjmbaa.Pure
open Go.RowKit Go.Proofs.Ytnkcoooifjjmbaa.QFnExactOpPlain Go.Proofs.YtnkcoooifjjmbaaW.PrintWords Go.Proofs.YtnkcoooifjjmbaaW.PrintLast Go.Proofs.YtnkcoooifjjmbaaW.PrintMore
set_option linter.unusedVariables false
set_option linter.unusedSimpArgs false

theorem w64 {x : Int} (h0 : -9223372036854775808 ≤ x) (h1 : x ≤ 9223372036854775807) : wrap64 x = x := by
  unfold wrap64
  omega
theorem wnext (i : Nat) (h : i < 9223372036854775807) : wrap64 ((i : Int) + 1) = ((i + 1 : Nat) : Int) := by
  unfold wrap64
  omega
theorem rdOf_at {α : Type} (d : α) (l : List α) (i : Nat) (h : i < l.length) : rdOf d l (i : Int) = l[i] := by
  simp [rdOf, List.getD, h]
theorem rd_at (l : List Int) (i : Nat) (h : i < l.length) : rd l (i : Int) = l[i] := by
  simp [rd, List.getD, h]
theorem set_step {α : Type} (l m : List α) (i : Nat) (v : α) (hl : l.length = m.length) (hi : i < m.length) (hv : m[i]? = some v)
    (hp : ∀ j, j < i → l[j]? = m[j]?) : (l.set i v).length = m.length ∧ ∀ j, j < i + 1 → (l.set i v)[j]? = m[j]? := by
  refine ⟨by simp [hl], fun j hj => ?_⟩
  rw [List.getElem?_set]
  by_cases e : i = j
  · subst e
    rw [if_pos rfl, if_pos (by omega), hv]
  · rw [if_neg e]
    exact hp j (by omega)
theorem all_eq {α : Type} (l m : List α) (hl : l.length = m.length) (hp : ∀ j, j < m.length → l[j]? = m[j]?) : l = m := by
  apply List.ext_getElem?
  intro j
  by_cases hj : j < m.length
  · exact hp j hj
  · rw [List.getElem?_eq_none (by omega), List.getElem?_eq_none (by omega)]

theorem b64 {n : Int} (h : (Lit.int .i64 n).wf = true) : -9223372036854775808 ≤ n ∧ n ≤ 9223372036854775807 := by
  simp [Lit.wf, IntKind.min, IntKind.max, IntKind.signed, IntKind.bits] at h
  omega
theorem b8 {n : Int} (h : (Lit.int .u8 n).wf = true) : 0 ≤ n ∧ n ≤ 255 := by
  simp [Lit.wf, IntKind.min, IntKind.max, IntKind.signed, IntKind.bits] at h
  omega

theorem neg_len (n : Nat) : ¬ ((1 : Int) + (n : Int) < 0) := by omega
theorem bne_no (b : Bool) : ¬ ((b != b) = true) := by simp
theorem ff : ¬ (false = true) := by simp
theorem ntt : ¬ ((!true) = true) := by simp
theorem sb {α β : Type} {o : Option α} {v : α} {f : α → Option β} {r : Option β} (h : o = some v) (k : f v = r) : o.bind f = r := by rw [h]; exact k
theorem st {α : Type} {c : Prop} [Decidable c] {a b r : α} (h : c) (k : a = r) : (if c then a else b) = r := by rw [if_pos h]; exact k
theorem sf {α : Type} {c : Prop} [Decidable c] {a b r : α} (h : ¬ c) (k : b = r) : (if c then a else b) = r := by rw [if_neg h]; exact k

theorem plain_spec (a0 a1 a2 a3 a4 a5 a6 a7 : Int) : spec_OpPlain.f a0 a1 a2 a3 a4 a5 a6 a7 = some (plainT a0 a1 a2 a3 a4 a5 a6 a7) := rfl
theorem plain_impl (a0 a1 a2 a3 a4 a5 a6 a7 : Int) : impl_OpPlain.f a0 a1 a2 a3 a4 a5 a6 a7 = some (plainT a0 a1 a2 a3 a4 a5 a6 a7) := by
  unfold impl_OpPlain.f plainOf plainT
  by_cases h1 : a0 = 1
  · subst h1
    rfl
  by_cases h2 : a0 = 2
  · subst h2
    rfl
  by_cases h3 : a0 = 3
  · subst h3
    rfl
  by_cases h4 : a0 = 4
  · subst h4
    rfl
  by_cases h5 : a0 = 5
  · subst h5
    rfl
  by_cases h6 : a0 = 6
  · subst h6
    rfl
  by_cases h7 : a0 = 7
  · subst h7
    rfl
  by_cases h8 : a0 = 8
  · subst h8
    rfl
  by_cases h9 : a0 = 9
  · subst h9
    rfl
  by_cases h10 : a0 = 10
  · subst h10
    rfl
  by_cases h11 : a0 = 11
  · subst h11
    rfl
  have he : offsOf a0 = [] := by
    unfold offsOf
    rw [if_neg h1, if_neg h2, if_neg h3, if_neg h4, if_neg h5, if_neg h6, if_neg h7, if_neg h9, if_neg h10, if_neg h11]
  rw [he, if_neg h1, if_neg h2, if_neg h3, if_neg h4, if_neg h5, if_neg h6, if_neg h7, if_neg h8, if_neg h9, if_neg h10, if_neg h11]
  rfl
theorem to_op (a b c d e f g h : Int) : laws_toOp.f a b c d e f g h = some (a, b, c, d, e, f, g, h) := rfl
theorem eq_op (a b c d e f g h : Int) : laws_eqOp.f a b c d e f g h a b c d e f g h = some true := by
  simp [laws_eqOp.f, laws_eqShape.f]
theorem FnExactOpPlain (a0 a1 a2 a3 a4 a5 a6 a7 : Int) (_ : (Lit.int .i64 a0).wf = true) (_ : (Lit.int .i64 a1).wf = true) (_ : (Lit.int .i64 a2).wf = true) (_ : (Lit.int .i64 a3).wf = true) (_ : (Lit.int .i64 a4).wf = true) (_ : (Lit.int .i64 a5).wf = true) (_ : (Lit.int .i64 a6).wf = true) (_ : (Lit.int .i64 a7).wf = true) : laws_FnExactOpPlain.f a0 a1 a2 a3 a4 a5 a6 a7 = some true := by
  unfold laws_FnExactOpPlain.f
  refine sb (to_op _ _ _ _ _ _ _ _) (sb (plain_spec _ _ _ _ _ _ _ _) (sb (to_op _ _ _ _ _ _ _ _) (sb (plain_impl _ _ _ _ _ _ _ _) (sb (eq_op _ _ _ _ _ _ _ _) (st rfl rfl)))))

end Go.Proofs.Ytnkcoooifjjmbaa.Pure
