/- A region's first address is in it, and so are the words up to the next one: the law answers true at every code. No condition. -/
import Derived.Test.YtpalgpgeicpaoaaQFnRegionsx1
namespace Go.Proofs.Ytpalgpgeicpaoaa.Pure
open Go.RowKit Go.Proofs.Ytpalgpgeicpaoaa.QFnRegions Go.Proofs.YtpalgpgeicpaoaaW.PrintWords Go.Proofs.YtpalgpgeicpaoaaW.PrintLast Go.Proofs.YtpalgpgeicpaoaaW.PrintMore
set_option linter.unusedVariables false
set_option linter.unusedSimpArgs false

theorem w64 {x : Int} (h0 : -9223372036854775808 ≤ x) (h1 : x ≤ 9223372036854775807) : wrap64 x = x := by
  unfold wrap64
  omega
theorem wnext (i : Nat) (h : i < 9223372036854775807) : wrap64 ((i : Int) + 1) = ((i + 1 : Nat) : Int) := by
  unfold wrap64
  omega
theorem rdOf_at {α : Type} (d : α) (l : List α) (i : Nat) (h : i < l.length) : rdOf d l (i : Int) = l[i] := by
  simp [rdOf, List.getD, h]
theorem rd_at (l : List Int) (i : Nat) (h : i < l.length) : rd l (i : Int) = l[i] := by
  simp [rd, List.getD, h]
theorem set_step {α : Type} (l m : List α) (i : Nat) (v : α) (hl : l.length = m.length) (hi : i < m.length) (hv : m[i]? = some v)
    (hp : ∀ j, j < i → l[j]? = m[j]?) : (l.set i v).length = m.length ∧ ∀ j, j < i + 1 → (l.set i v)[j]? = m[j]? := by
  refine ⟨by simp [hl], fun j hj => ?_⟩
  rw [List.getElem?_set]
  by_cases e : i = j
  · subst e
    rw [if_pos rfl, if_pos (by omega), hv]
  · rw [if_neg e]
    exact hp j (by omega)
theorem all_eq {α : Type} (l m : List α) (hl : l.length = m.length) (hp : ∀ j, j < m.length → l[j]? = m[j]?) : l = m := by
  apply List.ext_getElem?
  intro j
  by_cases hj : j < m.length
  · exact hp j hj
  · rw [List.getElem?_eq_none (by omega), List.getElem?_eq_none (by omega)]

theorem b64 {n : Int} (h : (Lit.int .i64 n).wf = true) : -9223372036854775808 ≤ n ∧ n ≤ 9223372036854775807 := by
  simp [Lit.wf, IntKind.min, IntKind.max, IntKind.signed, IntKind.bits] at h
  omega
theorem b8 {n : Int} (h : (Lit.int .u8 n).wf = true) : 0 ≤ n ∧ n ≤ 255 := by
  simp [Lit.wf, IntKind.min, IntKind.max, IntKind.signed, IntKind.bits] at h
  omega

theorem tdiv_nn {a : Int} (h : 0 ≤ a) (b : Int) : Int.tdiv a b = a / b := Int.tdiv_eq_ediv_of_nonneg h
theorem tmod_nn {a : Int} (h : 0 ≤ a) (b : Int) : Int.tmod a b = a % b := Int.tmod_eq_emod_of_nonneg h

theorem xor_nn {a b : Int} (ha : 0 ≤ a) (hb : 0 ≤ b) (ha1 : a < 4611686018427387904) (hb1 : b < 4611686018427387904) : 0 ≤ Go.bits .xor .i64 a b := by
  obtain ⟨m, rfl⟩ := Int.eq_ofNat_of_zero_le ha
  obtain ⟨n, rfl⟩ := Int.eq_ofNat_of_zero_le hb
  have hx : m ^^^ n < 2 ^ 62 := Nat.xor_lt_two_pow (by omega) (by omega)
  have h1 : (BitVec.ofInt 64 (m : Int)).toNat = m := by
    rw [BitVec.ofInt_natCast, BitVec.toNat_ofNat]
    exact Nat.mod_eq_of_lt (by omega)
  have h2 : (BitVec.ofInt 64 (n : Int)).toNat = n := by
    rw [BitVec.ofInt_natCast, BitVec.toNat_ofNat]
    exact Nat.mod_eq_of_lt (by omega)
  have h : Go.bits .xor .i64 (m : Int) (n : Int) = IntKind.i64.wrap ((BitVec.ofInt 64 (m : Int) ^^^ BitVec.ofInt 64 (n : Int)).toNat : Int) := rfl
  rw [h, BitVec.toNat_xor, h1, h2, i64_w, w64 (by omega) (by omega)]
  omega
def IsBytes (xs : List Int) : Prop := xs.length ≤ 2000 ∧ ∀ x ∈ xs, (Lit.int .u8 x).wf = true
theorem rd_byte {xs : List Int} (h : IsBytes xs) (i : Int) : 0 ≤ rd xs i ∧ rd xs i ≤ 255 := by
  unfold rd
  by_cases hi : i.toNat < xs.length
  · have e : xs.getD i.toNat 0 = xs[i.toNat] := by simp [List.getD, hi]
    rw [e]
    exact b8 (h.2 _ (List.getElem_mem hi))
  · have e : xs.getD i.toNat 0 = 0 := by simp [List.getD, hi]
    omega
theorem open_bytes (l : List Int) (hw : ∀ x ∈ l, (Lit.int .u8 x).wf = true) : ∃ xs, spec_l1Open.f l = some (xs, 0) ∧ IsBytes xs := by
  unfold spec_l1Open.f
  by_cases h : (l.length : Int) > 2000
  · rw [if_pos h, if_pos (by omega)]
    exact ⟨_, rfl, by simp; omega, fun x hx => hw x (List.mem_of_mem_take hx)⟩
  · rw [if_neg h]
    exact ⟨_, rfl, by omega, hw⟩
theorem pick_some {xs : List Int} (hx : IsBytes xs) (p n : Int) (hp : 0 ≤ p ∧ p ≤ 1000000) (hn : 1 ≤ n ∧ n ≤ 1000000) (k : Nat) (hk : 0 < k) :
    ∃ v, spec_l1Rd_pick.f k xs p n = some (v, p + 1) ∧ 0 ≤ v ∧ v < n := by
  obtain ⟨k, rfl⟩ : ∃ m, k = m + 1 := ⟨k - 1, by omega⟩
  have hl := hx.1
  unfold spec_l1Rd_pick.f
  rw [if_neg (by omega), w64 (by omega) (by omega)]
  simp only [spec_l1Rd_pick.j0]
  by_cases h0 : xs.length = 0
  · rw [if_pos (by simpa using h0)]
    exact ⟨0, rfl, by omega, by omega⟩
  rw [if_neg (by simpa using h0), w64 (by omega) (by omega), show p + 1 - 1 = p by omega]
  by_cases h1 : p < (xs.length : Int)
  · rw [if_pos h1, if_pos (by omega), if_neg (by omega)]
    obtain ⟨b0, b1⟩ := rd_byte hx p
    rw [w64 (by omega) (by omega)]
    refine ⟨_, rfl, Int.tmod_nonneg _ b0, Int.tmod_lt_of_pos _ (by omega)⟩
  rw [if_neg h1, if_neg (by omega), w64 (x := p * 7) (by omega) (by omega), w64 (x := p * 7 + 3) (by omega) (by omega)]
  have m0 : 0 ≤ Int.tmod p xs.length := Int.tmod_nonneg _ hp.1
  have m1 : Int.tmod p xs.length < xs.length := Int.tmod_lt_of_pos _ (by omega)
  have m2 : 0 ≤ Int.tmod (p * 7 + 3) xs.length := Int.tmod_nonneg _ (by omega)
  have m3 : Int.tmod (p * 7 + 3) xs.length < xs.length := Int.tmod_lt_of_pos _ (by omega)
  rw [if_pos m0, if_pos m1, if_pos m2, if_pos m3, if_neg (by omega)]
  obtain ⟨b0, b1⟩ := rd_byte hx (Int.tmod p xs.length)
  obtain ⟨c0, c1⟩ := rd_byte hx (Int.tmod (p * 7 + 3) xs.length)
  have d0 : 0 ≤ Int.tdiv p xs.length := Int.tdiv_nonneg hp.1 (by omega)
  have d1 : Int.tdiv p xs.length ≤ p := by
    rw [Int.tdiv_eq_ediv_of_nonneg hp.1]
    exact Int.ediv_le_self _ hp.1
  generalize rd xs (Int.tmod p xs.length) = b at *
  generalize rd xs (Int.tmod (p * 7 + 3) xs.length) = c at *
  generalize Int.tdiv p xs.length = q at *
  simp (disch := omega) only [w64]
  generalize he : b * 131 + c * 1117 + p * 29 + q * 53 = e
  have e0 : 0 ≤ e := by omega
  have e1 : e < 4611686018427387904 := by omega
  have f0 : 0 ≤ Int.tdiv e 64 := Int.tdiv_nonneg e0 (by omega)
  have f1 : Int.tdiv e 64 ≤ e := by
    rw [Int.tdiv_eq_ediv_of_nonneg e0]
    exact Int.ediv_le_self _ e0
  rw [w64 (by omega) (by omega)]
  exact ⟨_, rfl, Int.tmod_nonneg _ (xor_nn e0 f0 e1 (by omega)), Int.tmod_lt_of_pos _ (by omega)⟩

theorem regions_j (K : Nat) (hK : 1 < K) (l : List Int) (hw : ∀ x ∈ l, (Lit.int .u8 x).wf = true) : laws_FnRegions.j0 K l false = some true := by
  obtain ⟨K, rfl⟩ : ∃ m, K = m + 1 := ⟨K - 1, by omega⟩
  obtain ⟨xs, hx, hb⟩ := open_bytes l hw
  obtain ⟨v, hv, v0, v1⟩ := pick_some hb 0 250 (by omega) (by omega) K (by omega)
  simp only [laws_FnRegions.j0, spec_DrawRegionOf.f, hx, hv, Option.bind_some, Bool.false_eq_true, if_false]
  rw [w64 (by omega) (by omega)]
  generalize ha : v - 20 = a
  have a0 : -20 ≤ a := by omega
  have a1 : a < 230 := by omega
  unfold impl_RegionOf.f spec_RegionOf.f impl_RegionBase.f
  by_cases h : a < 0
  · simp [h]
  · have h0 : 0 ≤ a := by omega
    rw [if_neg h, tdiv_nn h0, w64 (by omega) (by omega)]
    simp only [Option.bind_some, if_true]
    have hq : ¬ a / 16 < 0 := by omega
    rw [if_pos (by simp [h, hq]), if_neg hq]
    by_cases g : a / 16 ≥ 12
    · rw [if_pos g]
    · rw [if_neg g]
      simp only [if_neg hq, if_neg g, Option.bind_some]
      rw [w64 (x := a / 16 * 16) (by omega) (by omega), if_pos (by omega), w64 (by omega) (by omega)]
      exact congrArg some (decide_eq_true (by omega))
theorem FnRegions (l : List Int) (hg : l.length ≤ maxLen ∧ ∀ x ∈ l, (Lit.int .u8 x).wf = true) : ∃ k, laws_FnRegions.f k l = some true := by
  have hw := hg.2
  refine ⟨3, ?_⟩
  unfold laws_FnRegions.f
  by_cases h : (l.length : Int) > 1048576
  · rw [if_pos h]
  rw [if_neg h]
  obtain ⟨xs, hx, hb⟩ := open_bytes l hw
  obtain ⟨v, hv, v0, v1⟩ := pick_some hb 0 16 (by omega) (by omega) 3 (by omega)
  have hj := regions_j 3 (by omega) l hw
  simp only [spec_DrawRegionBase.f, hx, hv, Option.bind_some]
  rw [w64 (by omega) (by omega)]
  generalize ha : v - 2 = r
  have a0 : -2 ≤ r := by omega
  have a1 : r < 14 := by omega
  unfold impl_RegionBase.f spec_RegionBase.f
  by_cases h0 : r < 0
  · simp only [if_pos h0, Option.bind_some, if_true]
    rw [if_neg (by omega)]
    exact hj
  by_cases h1 : r ≥ 12
  · simp only [if_neg h0, if_pos h1, Option.bind_some, if_true]
    rw [if_pos (by omega), if_neg (by omega)]
    exact hj
  · simp only [if_neg h0, if_neg h1, Option.bind_some, if_true]
    rw [if_pos (by omega), if_pos (by omega), w64 (x := r * 16) (by omega) (by omega), w64 (x := r * 16 + 16) (by omega) (by omega), w64 (x := r * 16 + 16 - 1) (by omega) (by omega)]
    unfold impl_RegionOf.f
    rw [if_neg (by omega), if_neg (by omega), tdiv_nn (by omega), tdiv_nn (by omega), w64 (by omega) (by omega), w64 (by omega) (by omega)]
    simp only [Option.bind_some]
    rw [if_pos (by omega), show ((r * 16 + 16 - 1) / 16 != r) = false by simp; omega]
    exact hj

end Go.Proofs.Ytpalgpgeicpaoaa.Pure
