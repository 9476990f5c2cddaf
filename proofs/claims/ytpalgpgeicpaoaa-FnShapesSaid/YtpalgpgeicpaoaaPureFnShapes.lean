/- Every shape has a word of its own, from which it is read back: the law answers true at every code. No condition. -/
import Derived.Test.YtpalgpgeicpaoaaQFnShapesx3
namespace Go.Proofs.Ytpalgpgeicpaoaa.Pure
open Go.RowKit Go.Proofs.Ytpalgpgeicpaoaa.QFnShapes Go.Proofs.YtpalgpgeicpaoaaW.PrintWords Go.Proofs.YtpalgpgeicpaoaaW.PrintLast Go.Proofs.YtpalgpgeicpaoaaW.PrintMore
set_option linter.unusedVariables false
set_option linter.unusedSimpArgs false

theorem w64 {x : Int} (h0 : -9223372036854775808 ≤ x) (h1 : x ≤ 9223372036854775807) : wrap64 x = x := by
  unfold wrap64
  omega
theorem wnext (i : Nat) (h : i < 9223372036854775807) : wrap64 ((i : Int) + 1) = ((i + 1 : Nat) : Int) := by
  unfold wrap64
  omega
theorem rdOf_at {α : Type} (d : α) (l : List α) (i : Nat) (h : i < l.length) : rdOf d l (i : Int) = l[i] := by
  simp [rdOf, List.getD, h]
theorem rd_at (l : List Int) (i : Nat) (h : i < l.length) : rd l (i : Int) = l[i] := by
  simp [rd, List.getD, h]
theorem set_step {α : Type} (l m : List α) (i : Nat) (v : α) (hl : l.length = m.length) (hi : i < m.length) (hv : m[i]? = some v)
    (hp : ∀ j, j < i → l[j]? = m[j]?) : (l.set i v).length = m.length ∧ ∀ j, j < i + 1 → (l.set i v)[j]? = m[j]? := by
  refine ⟨by simp [hl], fun j hj => ?_⟩
  rw [List.getElem?_set]
  by_cases e : i = j
  · subst e
    rw [if_pos rfl, if_pos (by omega), hv]
  · rw [if_neg e]
    exact hp j (by omega)
theorem all_eq {α : Type} (l m : List α) (hl : l.length = m.length) (hp : ∀ j, j < m.length → l[j]? = m[j]?) : l = m := by
  apply List.ext_getElem?
  intro j
  by_cases hj : j < m.length
  · exact hp j hj
  · rw [List.getElem?_eq_none (by omega), List.getElem?_eq_none (by omega)]

theorem b64 {n : Int} (h : (Lit.int .i64 n).wf = true) : -9223372036854775808 ≤ n ∧ n ≤ 9223372036854775807 := by
  simp [Lit.wf, IntKind.min, IntKind.max, IntKind.signed, IntKind.bits] at h
  omega
theorem b8 {n : Int} (h : (Lit.int .u8 n).wf = true) : 0 ≤ n ∧ n ≤ 255 := by
  simp [Lit.wf, IntKind.min, IntKind.max, IntKind.signed, IntKind.bits] at h
  omega

theorem tdiv_nn {a : Int} (h : 0 ≤ a) (b : Int) : Int.tdiv a b = a / b := Int.tdiv_eq_ediv_of_nonneg h
theorem tmod_nn {a : Int} (h : 0 ≤ a) (b : Int) : Int.tmod a b = a % b := Int.tmod_eq_emod_of_nonneg h

theorem xor_nn {a b : Int} (ha : 0 ≤ a) (hb : 0 ≤ b) (ha1 : a < 4611686018427387904) (hb1 : b < 4611686018427387904) : 0 ≤ Go.bits .xor .i64 a b := by
  obtain ⟨m, rfl⟩ := Int.eq_ofNat_of_zero_le ha
  obtain ⟨n, rfl⟩ := Int.eq_ofNat_of_zero_le hb
  have hx : m ^^^ n < 2 ^ 62 := Nat.xor_lt_two_pow (by omega) (by omega)
  have h1 : (BitVec.ofInt 64 (m : Int)).toNat = m := by
    rw [BitVec.ofInt_natCast, BitVec.toNat_ofNat]
    exact Nat.mod_eq_of_lt (by omega)
  have h2 : (BitVec.ofInt 64 (n : Int)).toNat = n := by
    rw [BitVec.ofInt_natCast, BitVec.toNat_ofNat]
    exact Nat.mod_eq_of_lt (by omega)
  have h : Go.bits .xor .i64 (m : Int) (n : Int) = IntKind.i64.wrap ((BitVec.ofInt 64 (m : Int) ^^^ BitVec.ofInt 64 (n : Int)).toNat : Int) := rfl
  rw [h, BitVec.toNat_xor, h1, h2, i64_w, w64 (by omega) (by omega)]
  omega
def IsBytes (xs : List Int) : Prop := xs.length ≤ 2000 ∧ ∀ x ∈ xs, (Lit.int .u8 x).wf = true
theorem rd_byte {xs : List Int} (h : IsBytes xs) (i : Int) : 0 ≤ rd xs i ∧ rd xs i ≤ 255 := by
  unfold rd
  by_cases hi : i.toNat < xs.length
  · have e : xs.getD i.toNat 0 = xs[i.toNat] := by simp [List.getD, hi]
    rw [e]
    exact b8 (h.2 _ (List.getElem_mem hi))
  · have e : xs.getD i.toNat 0 = 0 := by simp [List.getD, hi]
    omega
theorem open_bytes (l : List Int) (hw : ∀ x ∈ l, (Lit.int .u8 x).wf = true) : ∃ xs, spec_l1Open.f l = some (xs, 0) ∧ IsBytes xs := by
  unfold spec_l1Open.f
  by_cases h : (l.length : Int) > 2000
  · rw [if_pos h, if_pos (by omega)]
    exact ⟨_, rfl, by simp; omega, fun x hx => hw x (List.mem_of_mem_take hx)⟩
  · rw [if_neg h]
    exact ⟨_, rfl, by omega, hw⟩
theorem pick_some {xs : List Int} (hx : IsBytes xs) (p n : Int) (hp : 0 ≤ p ∧ p ≤ 1000000) (hn : 1 ≤ n ∧ n ≤ 1000000) (k : Nat) (hk : 0 < k) :
    ∃ v, spec_l1Rd_pick.f k xs p n = some (v, p + 1) ∧ 0 ≤ v ∧ v < n := by
  obtain ⟨k, rfl⟩ : ∃ m, k = m + 1 := ⟨k - 1, by omega⟩
  have hl := hx.1
  unfold spec_l1Rd_pick.f
  rw [if_neg (by omega), w64 (by omega) (by omega)]
  simp only [spec_l1Rd_pick.j0]
  by_cases h0 : xs.length = 0
  · rw [if_pos (by simpa using h0)]
    exact ⟨0, rfl, by omega, by omega⟩
  rw [if_neg (by simpa using h0), w64 (by omega) (by omega), show p + 1 - 1 = p by omega]
  by_cases h1 : p < (xs.length : Int)
  · rw [if_pos h1, if_pos (by omega), if_neg (by omega)]
    obtain ⟨b0, b1⟩ := rd_byte hx p
    rw [w64 (by omega) (by omega)]
    refine ⟨_, rfl, Int.tmod_nonneg _ b0, Int.tmod_lt_of_pos _ (by omega)⟩
  rw [if_neg h1, if_neg (by omega), w64 (x := p * 7) (by omega) (by omega), w64 (x := p * 7 + 3) (by omega) (by omega)]
  have m0 : 0 ≤ Int.tmod p xs.length := Int.tmod_nonneg _ hp.1
  have m1 : Int.tmod p xs.length < xs.length := Int.tmod_lt_of_pos _ (by omega)
  have m2 : 0 ≤ Int.tmod (p * 7 + 3) xs.length := Int.tmod_nonneg _ (by omega)
  have m3 : Int.tmod (p * 7 + 3) xs.length < xs.length := Int.tmod_lt_of_pos _ (by omega)
  rw [if_pos m0, if_pos m1, if_pos m2, if_pos m3, if_neg (by omega)]
  obtain ⟨b0, b1⟩ := rd_byte hx (Int.tmod p xs.length)
  obtain ⟨c0, c1⟩ := rd_byte hx (Int.tmod (p * 7 + 3) xs.length)
  have d0 : 0 ≤ Int.tdiv p xs.length := Int.tdiv_nonneg hp.1 (by omega)
  have d1 : Int.tdiv p xs.length ≤ p := by
    rw [Int.tdiv_eq_ediv_of_nonneg hp.1]
    exact Int.ediv_le_self _ hp.1
  generalize rd xs (Int.tmod p xs.length) = b at *
  generalize rd xs (Int.tmod (p * 7 + 3) xs.length) = c at *
  generalize Int.tdiv p xs.length = q at *
  simp (disch := omega) only [w64]
  generalize he : b * 131 + c * 1117 + p * 29 + q * 53 = e
  have e0 : 0 ≤ e := by omega
  have e1 : e < 4611686018427387904 := by omega
  have f0 : 0 ≤ Int.tdiv e 64 := Int.tdiv_nonneg e0 (by omega)
  have f1 : Int.tdiv e 64 ≤ e := by
    rw [Int.tdiv_eq_ediv_of_nonneg e0]
    exact Int.ediv_le_self _ e0
  rw [w64 (by omega) (by omega)]
  exact ⟨_, rfl, Int.tmod_nonneg _ (xor_nn e0 f0 e1 (by omega)), Int.tmod_lt_of_pos _ (by omega)⟩

theorem impl_ok (r n : Int) : impl_ShapeOk.f r n = some (decide (0 ≤ r ∧ r ≤ 4 ∧ 0 ≤ n ∧ n ≤ 4)) := by
  unfold impl_ShapeOk.f
  by_cases h1 : r ≥ 0 <;> by_cases h2 : r ≤ 4 <;> by_cases h3 : n ≥ 0 <;> simp [h1, h2, h3]
theorem spec_ok (r n : Int) : spec_ShapeOk.f r n = some (decide (0 ≤ r ∧ r ≤ 4 ∧ 0 ≤ n ∧ n ≤ 4)) := impl_ok r n
theorem word_eq (r n : Int) : impl_ShapeWord.f r n = some (if 0 ≤ r ∧ r ≤ 4 ∧ 0 ≤ n ∧ n ≤ 4 then 16 * r + n else -1) := by
  unfold impl_ShapeWord.f
  rw [impl_ok]
  simp only [Option.bind_some]
  by_cases h : 0 ≤ r ∧ r ≤ 4 ∧ 0 ≤ n ∧ n ≤ 4
  · rw [if_pos (decide_eq_true h), if_pos h, w64 (x := 16 * r) (by omega) (by omega), w64 (by omega) (by omega)]
  · rw [if_neg (by simpa using h), if_neg h]
theorem spec_word_eq (r n : Int) : spec_ShapeWord.f r n = some (if 0 ≤ r ∧ r ≤ 4 ∧ 0 ≤ n ∧ n ≤ 4 then 16 * r + n else -1) := word_eq r n
theorem of_eq (a : Int) (ha : a ≤ 9223372036854775807) : impl_ShapeOf.f a = if 0 ≤ a / 16 ∧ a / 16 ≤ 4 ∧ a % 16 ≤ 4 then some (a / 16, a % 16, true) else some (0, 0, false) := by
  unfold impl_ShapeOf.f
  by_cases h : a < 0
  · rw [if_pos h, if_neg (by omega)]
  have h0 : 0 ≤ a := by omega
  rw [if_neg h, tdiv_nn h0, tmod_nn h0, w64 (by omega) (by omega), impl_ok]
  simp only [Option.bind_some]
  by_cases g : 0 ≤ a / 16 ∧ a / 16 ≤ 4 ∧ a % 16 ≤ 4
  · rw [if_pos g, if_pos (decide_eq_true (by omega))]
  · rw [if_neg g, if_neg (by simp; omega)]
theorem shapes_j (K : Nat) (hK : 1 < K) (l : List Int) (hw : ∀ x ∈ l, (Lit.int .u8 x).wf = true) : laws_FnShapes.j0 K l false = some true := by
  obtain ⟨K, rfl⟩ : ∃ m, K = m + 1 := ⟨K - 1, by omega⟩
  obtain ⟨xs, hx, hb⟩ := open_bytes l hw
  obtain ⟨v, hv, v0, v1⟩ := pick_some hb 0 100 (by omega) (by omega) K (by omega)
  simp only [laws_FnShapes.j0, spec_DrawShapeOf.f, hx, hv, Option.bind_some, Bool.false_eq_true, if_false]
  rw [w64 (by omega) (by omega)]
  generalize ha : v - 5 = a
  have a0 : -5 ≤ a := by omega
  have a1 : a < 95 := by omega
  rw [of_eq a (by omega)]
  by_cases g : 0 ≤ a / 16 ∧ a / 16 ≤ 4 ∧ a % 16 ≤ 4
  · rw [if_pos g]
    simp only [Option.bind_some]
    have hs : impl_ShapeSize.f (a / 16) (a % 16) = some (2 + a / 16 + a % 16) := by
      unfold impl_ShapeSize.f
      rw [impl_ok]
      simp only [Option.bind_some]
      rw [if_pos (decide_eq_true (by omega)), w64 (x := 2 + a / 16) (by omega) (by omega), w64 (by omega) (by omega)]
    rw [hs, word_eq, if_pos (by omega)]
    simp only [Option.bind_some]
    rw [if_pos (by omega), if_pos (by simp; omega)]
  · rw [if_neg g]
    simp only [Option.bind_some]
    have hs : impl_ShapeSize.f 0 0 = some 2 := by
      unfold impl_ShapeSize.f
      rw [impl_ok]
      simp only [Option.bind_some]
      rw [if_pos (decide_eq_true (by omega)), w64 (x := 2 + 0) (by omega) (by omega), w64 (by omega) (by omega)]
      rfl
    rw [hs, word_eq, if_pos (by omega)]
    simp only [Option.bind_some]
    rw [if_pos (by omega)]
    have e : ((16 * 0 + 0 : Int) == a) = false := by
      have : a ≠ 0 := by omega
      simp
      omega
    rw [e]
    rfl
theorem FnShapes (l : List Int) (hg : l.length ≤ maxLen ∧ ∀ x ∈ l, (Lit.int .u8 x).wf = true) : ∃ k, laws_FnShapes.f k l = some true := by
  refine ⟨3, ?_⟩
  unfold laws_FnShapes.f
  by_cases h : (l.length : Int) > 1048576
  · rw [if_pos h]
  rw [if_neg h]
  obtain ⟨xs, hx, hb⟩ := open_bytes l hg.2
  obtain ⟨v, hv, v0, v1⟩ := pick_some hb 0 7 (by omega) (by omega) 3 (by omega)
  obtain ⟨u, hu, u0, u1⟩ := pick_some hb (0 + 1) 7 (by omega) (by omega) 3 (by omega)
  have hj := shapes_j 3 (by omega) l hg.2
  simp only [spec_DrawShapeWord.f, hx, hv, hu, Option.bind_some]
  rw [w64 (x := v - 1) (by omega) (by omega), w64 (x := u - 1) (by omega) (by omega)]
  generalize v - 1 = r at *
  generalize u - 1 = n at *
  rw [word_eq, spec_word_eq, spec_ok]
  simp only [Option.bind_some]
  by_cases g : 0 ≤ r ∧ r ≤ 4 ∧ 0 ≤ n ∧ n ≤ 4
  · rw [if_pos g, of_eq (16 * r + n) (by omega), if_pos (by omega), decide_eq_true g]
    simp only [Option.bind_some, if_true, bne_self_eq_false, Bool.false_eq_true, if_false]
    rw [show (!((16 * r + n) / 16 == r) || !((16 * r + n) % 16 == n)) = false by simp; omega]
    exact hj
  · rw [if_neg g, of_eq (-1) (by omega), if_neg (by omega), decide_eq_false g]
    simp only [Option.bind_some, if_true, bne_self_eq_false, Bool.false_eq_true, if_false]
    exact hj

end Go.Proofs.Ytpalgpgeicpaoaa.Pure
