/- A longer row of picks has no shorter gap: the law answers true at all codes. No condition. -/
import Derived.Test.YtpalgpgeicpaoaaPFnSchedGapJoinx3
namespace Go.Proofs.Ytpalgpgeicpaoaa.Pure
open Go.RowKit Go.Proofs.Ytpalgpgeicpaoaa.PFnSchedGapJoin Go.Proofs.YtpalgpgeicpaoaaW.PrintWords Go.Proofs.YtpalgpgeicpaoaaW.PrintLast Go.Proofs.YtpalgpgeicpaoaaW.PrintMore
set_option linter.unusedVariables false
set_option linter.unusedSimpArgs false

theorem w64 {x : Int} (h0 : -9223372036854775808 ≤ x) (h1 : x ≤ 9223372036854775807) : wrap64 x = x := by
  unfold wrap64
  omega
theorem wnext (i : Nat) (h : i < 9223372036854775807) : wrap64 ((i : Int) + 1) = ((i + 1 : Nat) : Int) := by
  unfold wrap64
  omega
theorem rdOf_at {α : Type} (d : α) (l : List α) (i : Nat) (h : i < l.length) : rdOf d l (i : Int) = l[i] := by
  simp [rdOf, List.getD, h]
theorem rd_at (l : List Int) (i : Nat) (h : i < l.length) : rd l (i : Int) = l[i] := by
  simp [rd, List.getD, h]
theorem set_step {α : Type} (l m : List α) (i : Nat) (v : α) (hl : l.length = m.length) (hi : i < m.length) (hv : m[i]? = some v)
    (hp : ∀ j, j < i → l[j]? = m[j]?) : (l.set i v).length = m.length ∧ ∀ j, j < i + 1 → (l.set i v)[j]? = m[j]? := by
  refine ⟨by simp [hl], fun j hj => ?_⟩
  rw [List.getElem?_set]
  by_cases e : i = j
  · subst e
    rw [if_pos rfl, if_pos (by omega), hv]
  · rw [if_neg e]
    exact hp j (by omega)
theorem all_eq {α : Type} (l m : List α) (hl : l.length = m.length) (hp : ∀ j, j < m.length → l[j]? = m[j]?) : l = m := by
  apply List.ext_getElem?
  intro j
  by_cases hj : j < m.length
  · exact hp j hj
  · rw [List.getElem?_eq_none (by omega), List.getElem?_eq_none (by omega)]

theorem b64 {n : Int} (h : (Lit.int .i64 n).wf = true) : -9223372036854775808 ≤ n ∧ n ≤ 9223372036854775807 := by
  simp [Lit.wf, IntKind.min, IntKind.max, IntKind.signed, IntKind.bits] at h
  omega
theorem b8 {n : Int} (h : (Lit.int .u8 n).wf = true) : 0 ≤ n ∧ n ≤ 255 := by
  simp [Lit.wf, IntKind.min, IntKind.max, IntKind.signed, IntKind.bits] at h
  omega

theorem tdiv_nn {a : Int} (h : 0 ≤ a) (b : Int) : Int.tdiv a b = a / b := Int.tdiv_eq_ediv_of_nonneg h
theorem tmod_nn {a : Int} (h : 0 ≤ a) (b : Int) : Int.tmod a b = a % b := Int.tmod_eq_emod_of_nonneg h

theorem xor_nn {a b : Int} (ha : 0 ≤ a) (hb : 0 ≤ b) (ha1 : a < 4611686018427387904) (hb1 : b < 4611686018427387904) : 0 ≤ Go.bits .xor .i64 a b := by
  obtain ⟨m, rfl⟩ := Int.eq_ofNat_of_zero_le ha
  obtain ⟨n, rfl⟩ := Int.eq_ofNat_of_zero_le hb
  have hx : m ^^^ n < 2 ^ 62 := Nat.xor_lt_two_pow (by omega) (by omega)
  have h1 : (BitVec.ofInt 64 (m : Int)).toNat = m := by
    rw [BitVec.ofInt_natCast, BitVec.toNat_ofNat]
    exact Nat.mod_eq_of_lt (by omega)
  have h2 : (BitVec.ofInt 64 (n : Int)).toNat = n := by
    rw [BitVec.ofInt_natCast, BitVec.toNat_ofNat]
    exact Nat.mod_eq_of_lt (by omega)
  have h : Go.bits .xor .i64 (m : Int) (n : Int) = IntKind.i64.wrap ((BitVec.ofInt 64 (m : Int) ^^^ BitVec.ofInt 64 (n : Int)).toNat : Int) := rfl
  rw [h, BitVec.toNat_xor, h1, h2, i64_w, w64 (by omega) (by omega)]
  omega
def IsBytes (xs : List Int) : Prop := xs.length ≤ 2000 ∧ ∀ x ∈ xs, (Lit.int .u8 x).wf = true
theorem rd_byte {xs : List Int} (h : IsBytes xs) (i : Int) : 0 ≤ rd xs i ∧ rd xs i ≤ 255 := by
  unfold rd
  by_cases hi : i.toNat < xs.length
  · have e : xs.getD i.toNat 0 = xs[i.toNat] := by simp [List.getD, hi]
    rw [e]
    exact b8 (h.2 _ (List.getElem_mem hi))
  · have e : xs.getD i.toNat 0 = 0 := by simp [List.getD, hi]
    omega
theorem open_bytes (l : List Int) (hw : ∀ x ∈ l, (Lit.int .u8 x).wf = true) : ∃ xs, spec_l1Open.f l = some (xs, 0) ∧ IsBytes xs := by
  unfold spec_l1Open.f
  by_cases h : (l.length : Int) > 2000
  · rw [if_pos h, if_pos (by omega)]
    exact ⟨_, rfl, by simp; omega, fun x hx => hw x (List.mem_of_mem_take hx)⟩
  · rw [if_neg h]
    exact ⟨_, rfl, by omega, hw⟩
theorem pick_some {xs : List Int} (hx : IsBytes xs) (p n : Int) (hp : 0 ≤ p ∧ p ≤ 1000000) (hn : 1 ≤ n ∧ n ≤ 1000000) (k : Nat) (hk : 0 < k) :
    ∃ v, spec_l1Rd_pick.f k xs p n = some (v, p + 1) ∧ 0 ≤ v ∧ v < n := by
  obtain ⟨k, rfl⟩ : ∃ m, k = m + 1 := ⟨k - 1, by omega⟩
  have hl := hx.1
  unfold spec_l1Rd_pick.f
  rw [if_neg (by omega), w64 (by omega) (by omega)]
  simp only [spec_l1Rd_pick.j0]
  by_cases h0 : xs.length = 0
  · rw [if_pos (by simpa using h0)]
    exact ⟨0, rfl, by omega, by omega⟩
  rw [if_neg (by simpa using h0), w64 (by omega) (by omega), show p + 1 - 1 = p by omega]
  by_cases h1 : p < (xs.length : Int)
  · rw [if_pos h1, if_pos (by omega), if_neg (by omega)]
    obtain ⟨b0, b1⟩ := rd_byte hx p
    rw [w64 (by omega) (by omega)]
    refine ⟨_, rfl, Int.tmod_nonneg _ b0, Int.tmod_lt_of_pos _ (by omega)⟩
  rw [if_neg h1, if_neg (by omega), w64 (x := p * 7) (by omega) (by omega), w64 (x := p * 7 + 3) (by omega) (by omega)]
  have m0 : 0 ≤ Int.tmod p xs.length := Int.tmod_nonneg _ hp.1
  have m1 : Int.tmod p xs.length < xs.length := Int.tmod_lt_of_pos _ (by omega)
  have m2 : 0 ≤ Int.tmod (p * 7 + 3) xs.length := Int.tmod_nonneg _ (by omega)
  have m3 : Int.tmod (p * 7 + 3) xs.length < xs.length := Int.tmod_lt_of_pos _ (by omega)
  rw [if_pos m0, if_pos m1, if_pos m2, if_pos m3, if_neg (by omega)]
  obtain ⟨b0, b1⟩ := rd_byte hx (Int.tmod p xs.length)
  obtain ⟨c0, c1⟩ := rd_byte hx (Int.tmod (p * 7 + 3) xs.length)
  have d0 : 0 ≤ Int.tdiv p xs.length := Int.tdiv_nonneg hp.1 (by omega)
  have d1 : Int.tdiv p xs.length ≤ p := by
    rw [Int.tdiv_eq_ediv_of_nonneg hp.1]
    exact Int.ediv_le_self _ hp.1
  generalize rd xs (Int.tmod p xs.length) = b at *
  generalize rd xs (Int.tmod (p * 7 + 3) xs.length) = c at *
  generalize Int.tdiv p xs.length = q at *
  simp (disch := omega) only [w64]
  generalize he : b * 131 + c * 1117 + p * 29 + q * 53 = e
  have e0 : 0 ≤ e := by omega
  have e1 : e < 4611686018427387904 := by omega
  have f0 : 0 ≤ Int.tdiv e 64 := Int.tdiv_nonneg e0 (by omega)
  have f1 : Int.tdiv e 64 ≤ e := by
    rw [Int.tdiv_eq_ediv_of_nonneg e0]
    exact Int.ediv_le_self _ e0
  rw [w64 (by omega) (by omega)]
  exact ⟨_, rfl, Int.tmod_nonneg _ (xor_nn e0 f0 e1 (by omega)), Int.tmod_lt_of_pos _ (by omega)⟩

theorem draw_cfg {xs : List Int} (hx : IsBytes xs) (K : Nat) (hK : 100 < K) : ∃ (a b c q : Int), spec_l20Config.f K xs 0 = some (a, b, c, q) ∧ q = 3 ∧ 1 ≤ b ∧ b ≤ 3 ∧ 4 ≤ a ∧ a ≤ 9 := by
  unfold spec_l20Config.f
  obtain ⟨v, hv, v0, v1⟩ := pick_some hx 0 6 (by omega) (by omega) K (by omega)
  obtain ⟨u, hu, u0, u1⟩ := pick_some hx (0 + 1) 3 (by omega) (by omega) K (by omega)
  obtain ⟨e, he, e0, e1⟩ := pick_some hx (0 + 1 + 1) 5 (by omega) (by omega) K (by omega)
  rw [hv]
  simp only [Option.bind_some]
  rw [hu]
  simp only [Option.bind_some]
  rw [he]
  simp only [Option.bind_some]
  rw [if_pos e0, if_pos (by simp; omega), w64 (x := 4 + v) (by omega) (by omega), w64 (x := 1 + u) (by omega) (by omega)]
  exact ⟨_, _, _, _, rfl, by omega, by omega, by omega, by omega, by omega⟩

def Goes (xs : List Int) (n c0 c1 c2 : Int) (M : Nat) : Prop := ∀ (l : List Int) (p : Int), n - (l.length : Int) ≤ M → l.length ≤ 1000 → (0 ≤ p ∧ p + 120 * (M : Int) ≤ 100000) →
    ∃ (r : List Int) (q : Int), (∀ k, 200 * M + 1 ≤ k → spec_l20Picks.l0 k n l xs p c0 c1 c2 = some (r, q)) ∧ r.length ≤ 80 ∧ p ≤ q ∧ q ≤ p + 120 * (M : Int)
theorem goes_l2 (xs : List Int) (n c0 c1 c2 : Int) (M : Nat) (hG : Goes xs n c0 c1 c2 M) (x8 x9 : Int) (h8 : 1 ≤ x8 ∧ x8 ≤ 36) (d : Nat) : ∀ (l : List Int) (i p : Int), 0 ≤ i → x8 - i = d → n - (l.length : Int) ≤ M + d → l.length + d ≤ 1000 → (0 ≤ p ∧ p + 120 * (M : Int) ≤ 100000) → (n - (l.length : Int) ≤ M ∨ 1 ≤ d) →
    ∃ (r : List Int) (q : Int), (∀ k, 200 * M + 1 + d + 1 ≤ k → spec_l20Picks.l2 k n l x8 x9 i xs p c0 c1 c2 = some (r, q)) ∧ r.length ≤ 80 ∧ p ≤ q ∧ q ≤ p + 120 * (M : Int) := by
  induction d with
  | zero =>
    intro l i p hi hd hl hll hp _
    obtain ⟨r, q, h, h1, h2, h3⟩ := hG l p (by omega) (by omega) hp
    refine ⟨r, q, fun k hk => ?_, h1, h2, h3⟩
    obtain ⟨k, rfl⟩ : ∃ m, k = m + 1 := ⟨k - 1, by omega⟩
    simp only [spec_l20Picks.l2]
    rw [if_neg (by omega)]
    exact h k (by omega)
  | succ d ih =>
    intro l i p hi hd hl hll hp _
    obtain ⟨r, q, h, h1, h2, h3⟩ := ih (l ++ [x9]) (i + 1) p (by omega) (by omega) (by simp; omega) (by simp; omega) hp (by simp; omega)
    refine ⟨r, q, fun k hk => ?_, h1, h2, h3⟩
    obtain ⟨k, rfl⟩ : ∃ m, k = m + 1 := ⟨k - 1, by omega⟩
    simp only [spec_l20Picks.l2]
    rw [if_pos (by omega), if_pos (by omega), w64 (by omega) (by omega)]
    exact h k (by omega)
theorem goes_l1 {xs : List Int} (hx : IsBytes xs) (n c0 c1 c2 : Int) (hc : 1 ≤ c1 ∧ c1 ≤ 3) (M : Nat) (hG : Goes xs n c0 c1 c2 M) (x8 : Int) (h8 : 1 ≤ x8 ∧ x8 ≤ 36) (d : Nat) : ∀ (l : List Int) (i p : Int), 0 ≤ i → 2 * x8 - i = d → n - (l.length : Int) ≤ M + d → l.length + d ≤ 1000 → (0 ≤ p ∧ p + d + 120 * (M : Int) ≤ 100000) →
    ∃ (r : List Int) (q : Int), (∀ k, 200 * M + 1 + d + 1 ≤ k → spec_l20Picks.l1 k n l x8 i xs p c0 c1 c2 = some (r, q)) ∧ r.length ≤ 80 ∧ p ≤ q ∧ q ≤ p + d + 120 * (M : Int) := by
  induction d with
  | zero =>
    intro l i p hi hd hl hll hp
    obtain ⟨r, q, h, h1, h2, h3⟩ := hG l p (by omega) (by omega) (by omega)
    refine ⟨r, q, fun k hk => ?_, h1, h2, by omega⟩
    obtain ⟨k, rfl⟩ : ∃ m, k = m + 1 := ⟨k - 1, by omega⟩
    simp only [spec_l20Picks.l1]
    rw [w64 (by omega) (by omega), if_neg (by omega)]
    exact h k (by omega)
  | succ d ih =>
    intro l i p hi hd hl hll hp
    have hpk : ∃ v, ∀ k, 0 < k → spec_l1Rd_pick.f k xs p (c1 + 1) = some (v, p + 1) := by
      obtain ⟨v, hv, _, _⟩ := pick_some hx p (c1 + 1) (by omega) (by omega) 1 (by omega)
      refine ⟨v, fun k hk => ?_⟩
      exact at_rounds (spec_l1Rd_pick.mono xs p (c1 + 1)) (show 1 ≤ k by omega) hv
    obtain ⟨v, hv⟩ := hpk
    obtain ⟨r, q, h, h1, h2, h3⟩ := ih (l ++ [v]) (i + 1) (p + 1) (by omega) (by omega) (by simp; omega) (by simp; omega) (by omega)
    refine ⟨r, q, fun k hk => ?_, h1, by omega, by omega⟩
    obtain ⟨k, rfl⟩ : ∃ m, k = m + 1 := ⟨k - 1, by omega⟩
    simp only [spec_l20Picks.l1]
    rw [w64 (x := 2 * x8) (by omega) (by omega), if_pos (by omega), w64 (x := c1 + 1) (by omega) (by omega), hv k (by omega)]
    simp only [Option.bind_some]
    rw [if_pos (by omega), w64 (by omega) (by omega)]
    exact h k (by omega)
theorem pick_all {xs : List Int} (hx : IsBytes xs) (p n : Int) (hp : 0 ≤ p ∧ p ≤ 1000000) (hn : 1 ≤ n ∧ n ≤ 1000000) : ∃ v, (∀ k, 0 < k → spec_l1Rd_pick.f k xs p n = some (v, p + 1)) ∧ 0 ≤ v ∧ v < n := by
  obtain ⟨v, hv, v0, v1⟩ := pick_some hx p n hp hn 1 (by omega)
  exact ⟨v, fun k hk => at_rounds (spec_l1Rd_pick.mono xs p n) (show 1 ≤ k by omega) hv, v0, v1⟩
theorem goes_j2 {xs : List Int} (hx : IsBytes xs) (n c0 c1 c2 : Int) (hc : 1 ≤ c1 ∧ c1 ≤ 3) (M : Nat) (hG : Goes xs n c0 c1 c2 M) (x8 x9 : Int) (h8 : 1 ≤ x8 ∧ x8 ≤ 36) (l : List Int) (p : Int) (hl : n - (l.length : Int) ≤ M + 1) (hll : l.length + 80 ≤ 1000) (hp : 0 ≤ p ∧ p + 80 + 120 * (M : Int) ≤ 100000) :
    ∃ (r : List Int) (q : Int), (∀ k, 200 * M + 1 + 80 ≤ k → spec_l20Picks.j2 k n l x8 x9 xs p c0 c1 c2 = some (r, q)) ∧ r.length ≤ 80 ∧ p ≤ q ∧ q ≤ p + 80 + 120 * (M : Int) := by
  obtain ⟨v, hv, v0, v1⟩ := pick_all hx p 3 (by omega) (by omega)
  by_cases h0 : v = 0
  · obtain ⟨d, hd⟩ : ∃ d : Nat, 2 * x8 - 0 = d := ⟨(2 * x8).toNat, by omega⟩
    obtain ⟨r, q, h, h1, h2, h3⟩ := goes_l1 hx n c0 c1 c2 hc M hG x8 h8 d l 0 (p + 1) (by omega) hd (by omega) (by omega) (by omega)
    refine ⟨r, q, fun k hk => ?_, h1, by omega, by omega⟩
    obtain ⟨k, rfl⟩ : ∃ m, k = m + 1 := ⟨k - 1, by omega⟩
    simp only [spec_l20Picks.j2]
    rw [hv k (by omega)]
    simp only [Option.bind_some]
    rw [if_pos h0]
    exact h k (by omega)
  · obtain ⟨d, hd⟩ : ∃ d : Nat, x8 - 0 = d := ⟨x8.toNat, by omega⟩
    obtain ⟨r, q, h, h1, h2, h3⟩ := goes_l2 xs n c0 c1 c2 M hG x8 x9 h8 d l 0 (p + 1) (by omega) hd (by omega) (by omega) (by omega) (by omega)
    refine ⟨r, q, fun k hk => ?_, h1, by omega, by omega⟩
    obtain ⟨k, rfl⟩ : ∃ m, k = m + 1 := ⟨k - 1, by omega⟩
    simp only [spec_l20Picks.j2]
    rw [hv k (by omega)]
    simp only [Option.bind_some]
    rw [if_neg h0]
    exact h k (by omega)
theorem goes_j1 {xs : List Int} (hx : IsBytes xs) (n c0 c1 c2 : Int) (hc : 1 ≤ c1 ∧ c1 ≤ 3) (M : Nat) (hG : Goes xs n c0 c1 c2 M) (x8 x9 : Int) (h8 : 1 ≤ x8 ∧ x8 ≤ 36) (l : List Int) (p : Int) (hl : n - (l.length : Int) ≤ M + 1) (hll : l.length + 90 ≤ 1000) (hp : 0 ≤ p ∧ p + 90 + 120 * (M : Int) ≤ 100000) :
    ∃ (r : List Int) (q : Int), (∀ k, 200 * M + 1 + 90 ≤ k → spec_l20Picks.j1 k n l x8 x9 xs p c0 c1 c2 = some (r, q)) ∧ r.length ≤ 80 ∧ p ≤ q ∧ q ≤ p + 90 + 120 * (M : Int) := by
  obtain ⟨v, hv, v0, v1⟩ := pick_all hx p 8 (by omega) (by omega)
  by_cases h0 : v = 0
  · obtain ⟨r, q, h, h1, h2, h3⟩ := goes_j2 hx n c0 c1 c2 hc M hG x8 x9 h8 (l ++ [wrap64 (c1 + 1)]) (p + 1) (by simp; omega) (by simp; omega) (by omega)
    refine ⟨r, q, fun k hk => ?_, h1, by omega, by omega⟩
    obtain ⟨k, rfl⟩ : ∃ m, k = m + 1 := ⟨k - 1, by omega⟩
    simp only [spec_l20Picks.j1]
    rw [hv k (by omega)]
    simp only [Option.bind_some]
    rw [if_pos h0, if_pos (by omega)]
    exact h k (by omega)
  · obtain ⟨r, q, h, h1, h2, h3⟩ := goes_j2 hx n c0 c1 c2 hc M hG x8 x9 h8 l (p + 1) (by omega) (by omega) (by omega)
    refine ⟨r, q, fun k hk => ?_, h1, by omega, by omega⟩
    obtain ⟨k, rfl⟩ : ∃ m, k = m + 1 := ⟨k - 1, by omega⟩
    simp only [spec_l20Picks.j1]
    rw [hv k (by omega)]
    simp only [Option.bind_some]
    rw [if_neg h0]
    exact h k (by omega)
theorem goes_all {xs : List Int} (hx : IsBytes xs) (n c0 c1 c2 : Int) (hn : 0 ≤ n ∧ n ≤ 80) (hc : 1 ≤ c1 ∧ c1 ≤ 3) (M : Nat) : Goes xs n c0 c1 c2 M := by
  induction M with
  | zero =>
    intro l p hl hll hp
    refine ⟨l.take n.toNat, p, fun k hk => ?_, by simp; omega, by omega, by omega⟩
    obtain ⟨k, rfl⟩ : ∃ m, k = m + 1 := ⟨k - 1, by omega⟩
    simp only [spec_l20Picks.l0]
    rw [if_neg (by omega), if_pos (by omega), if_pos (by omega)]
  | succ M ih =>
    intro l p hl hll hp
    by_cases h : (l.length : Int) < n
    · obtain ⟨v, hv, v0, v1⟩ := pick_all hx p 12 (by omega) (by omega)
      obtain ⟨u, hu, u0, u1⟩ := pick_all hx (p + 1) (c1 + 1) (by omega) (by omega)
      obtain ⟨e, he, e0, e1⟩ := pick_all hx (p + 1 + 1) 3 (by omega) (by omega)
      have hw : wrap64 (1 + v) = 1 + v := w64 (by omega) (by omega)
      have hw3 : wrap64 ((1 + v) * 3) = (1 + v) * 3 := w64 (by omega) (by omega)
      have hwc : wrap64 (c1 + 1) = c1 + 1 := w64 (by omega) (by omega)
      by_cases h0 : e = 0
      · obtain ⟨r, q, g, g1, g2, g3⟩ := goes_j1 hx n c0 c1 c2 hc M ih ((1 + v) * 3) c1 (by omega) l (p + 1 + 1 + 1) (by omega) (by omega) (by omega)
        refine ⟨r, q, fun k hk => ?_, g1, by omega, by omega⟩
        obtain ⟨k, rfl⟩ : ∃ m, k = m + 1 := ⟨k - 1, by omega⟩
        simp only [spec_l20Picks.l0]
        rw [if_pos h, hv k (by omega), hwc]
        simp only [Option.bind_some]
        rw [hu k (by omega)]
        simp only [Option.bind_some]
        rw [he k (by omega)]
        simp only [Option.bind_some]
        rw [if_pos h0, hw, hw3]
        exact g k (by omega)
      · obtain ⟨r, q, g, g1, g2, g3⟩ := goes_j1 hx n c0 c1 c2 hc M ih (1 + v) u (by omega) l (p + 1 + 1 + 1) (by omega) (by omega) (by omega)
        refine ⟨r, q, fun k hk => ?_, g1, by omega, by omega⟩
        obtain ⟨k, rfl⟩ : ∃ m, k = m + 1 := ⟨k - 1, by omega⟩
        simp only [spec_l20Picks.l0]
        rw [if_pos h, hv k (by omega), hwc]
        simp only [Option.bind_some]
        rw [hu k (by omega)]
        simp only [Option.bind_some]
        rw [he k (by omega)]
        simp only [Option.bind_some]
        rw [if_neg h0, hw]
        exact g k (by omega)
    · refine ⟨l.take n.toNat, p, fun k hk => ?_, by simp; omega, by omega, by omega⟩
      obtain ⟨k, rfl⟩ : ∃ m, k = m + 1 := ⟨k - 1, by omega⟩
      simp only [spec_l20Picks.l0]
      rw [if_neg h, if_pos (by omega), if_pos (by omega)]

theorem neg_len (n : Nat) : ¬ ((1 : Int) + (n : Int) < 0) := by omega
theorem bne_no (b : Bool) : ¬ ((b != b) = true) := by simp
theorem ff : ¬ (false = true) := by simp
theorem ntt : ¬ ((!true) = true) := by simp
theorem sb {α β : Type} {o : Option α} {v : α} {f : α → Option β} {r : Option β} (h : o = some v) (k : f v = r) : o.bind f = r := by rw [h]; exact k
theorem st {α : Type} {c : Prop} [Decidable c] {a b r : α} (h : c) (k : a = r) : (if c then a else b) = r := by rw [if_pos h]; exact k
theorem sf {α : Type} {c : Prop} [Decidable c] {a b r : α} (h : ¬ c) (k : b = r) : (if c then a else b) = r := by rw [if_neg h]; exact k

def stp (who : Int) (s : Int × Int) (x : Int) : Int × Int := if x = who then (mx s.1 0, 0) else (mx s.1 (s.2 + 1), s.2 + 1)
def Fine (s : Int × Int) (n : Int) : Prop := 0 ≤ s.2 ∧ s.2 ≤ s.1 ∧ s.1 ≤ n
theorem stp_fine {who : Int} {s : Int × Int} {n : Int} (h : Fine s n) (x : Int) : Fine (stp who s x) (n + 1) ∧ s.1 ≤ (stp who s x).1 ∧ (stp who s x).1 ≤ s.1 + 1 := by
  obtain ⟨h0, h1, h2⟩ := h
  unfold stp Fine mx
  split <;> refine ⟨⟨?_, ?_, ?_⟩, ?_, ?_⟩ <;> (try split) <;> (try dsimp only) <;> omega
theorem fold_fine {who : Int} (l : List Int) : ∀ {s : Int × Int} {n : Int}, Fine s n → Fine (l.foldl (stp who) s) (n + (l.length : Int)) ∧ s.1 ≤ (l.foldl (stp who) s).1 ∧ (l.foldl (stp who) s).1 ≤ s.1 + (l.length : Int) := by
  induction l with
  | nil =>
    intro s n h
    exact ⟨by simpa using h, by simp, by simp⟩
  | cons x l ih =>
    intro s n h
    obtain ⟨h1, h2, h3⟩ := stp_fine (who := who) h x
    obtain ⟨g1, g2, g3⟩ := ih h1
    rw [List.foldl_cons, List.length_cons]
    refine ⟨?_, by omega, by push_cast; omega⟩
    have e : n + ((l.length + 1 : Nat) : Int) = n + 1 + (l.length : Int) := by push_cast; omega
    rw [e]
    exact g1
theorem drop_at (l : List Int) (i : Nat) (h : i < l.length) : l.drop i = l[i] :: l.drop (i + 1) := List.drop_eq_getElem_cons h
theorem impl_gap (l : List Int) (who : Int) (hl : l.length ≤ 1048576) (d : Nat) : ∀ (k i : Nat) (s : Int × Int), Fine s (i : Int) → i ≤ l.length → l.length - i = d → d < k →
    impl_SchedGap.l0 k who s.1 s.2 l (l.length : Int) (i : Int) = some ((l.drop i).foldl (stp who) s).1 := by
  induction d with
  | zero =>
    intro k i s hs hi hd hk
    obtain ⟨k, rfl⟩ : ∃ m, k = m + 1 := ⟨k - 1, by omega⟩
    simp only [impl_SchedGap.l0]
    rw [if_neg (by omega), List.drop_of_length_le (by omega)]
    rfl
  | succ d ih =>
    intro k i s hs hi hd hk
    obtain ⟨k, rfl⟩ : ∃ m, k = m + 1 := ⟨k - 1, by omega⟩
    have hw := ih k (i + 1) (stp who s l[i]) (by have := (stp_fine (who := who) hs l[i]).1; simpa using this) (by omega) (by omega) (by omega)
    obtain ⟨h0, h1, h2⟩ := hs
    simp only [impl_SchedGap.l0]
    rw [if_pos (by omega), if_pos (by omega), if_pos (by omega), wnext i (by omega), rd_at l i (by omega), drop_at l i (by omega), List.foldl_cons, w64 (by omega) (by omega), ← hw]
    unfold stp
    by_cases e : l[i] = who
    · rw [if_pos e, if_pos e]
    · rw [if_neg e, if_neg e]
theorem spec_gap (l : List Int) (who : Int) (hl : l.length ≤ 1048576) (d : Nat) : ∀ (k i : Nat) (s : Int × Int), Fine s (i : Int) → i ≤ l.length → l.length - i = d → d < k →
    spec_SchedGap.l0 k l who s.1 s.2 (i : Int) = some ((l.drop i).foldl (stp who) s).1 := by
  induction d with
  | zero =>
    intro k i s hs hi hd hk
    obtain ⟨k, rfl⟩ : ∃ m, k = m + 1 := ⟨k - 1, by omega⟩
    simp only [spec_SchedGap.l0]
    rw [if_neg (by omega), List.drop_of_length_le (by omega)]
    rfl
  | succ d ih =>
    intro k i s hs hi hd hk
    obtain ⟨k, rfl⟩ : ∃ m, k = m + 1 := ⟨k - 1, by omega⟩
    have hw := ih k (i + 1) (stp who s l[i]) (by have := (stp_fine (who := who) hs l[i]).1; simpa using this) (by omega) (by omega) (by omega)
    obtain ⟨h0, h1, h2⟩ := hs
    simp only [spec_SchedGap.l0]
    rw [if_pos (by omega), if_pos (by omega), wnext i (by omega), rd_at l i (by omega), drop_at l i (by omega), List.foldl_cons, w64 (x := s.2 + 1) (by omega) (by omega), ← hw]
    unfold stp mx
    by_cases e : l[i] = who
    · rw [if_pos e, if_pos e, if_neg (by omega)]
      simp only
      split
      · rw [show s.1 = 0 by omega]
      · rfl
    · rw [if_neg e, if_neg e]
      by_cases f : s.2 + 1 > s.1
      · rw [if_pos f]
        simp only
        split
        · rfl
        · omega
      · rw [if_neg f]
        simp only
        split
        · omega
        · rfl
theorem fine0 : Fine (0, 0) ((0 : Nat) : Int) := by
  unfold Fine
  simp
theorem impl_gap_eq (l : List Int) (who : Int) (hl : l.length ≤ 1048576) (k : Nat) (hk : 1048576 < k) : impl_SchedGap.f k l who = some (l.foldl (stp who) (0, 0)).1 := by
  unfold impl_SchedGap.f
  exact impl_gap l who hl l.length k 0 (0, 0) fine0 (by omega) (by omega) (by omega)
theorem spec_gap_eq (l : List Int) (who : Int) (hl : l.length ≤ 1048576) (k : Nat) (hk : 1048576 < k) : spec_SchedGap.f k l who = some (l.foldl (stp who) (0, 0)).1 := by
  unfold spec_SchedGap.f
  exact spec_gap l who hl l.length k 0 (0, 0) fine0 (by omega) (by omega) (by omega)

theorem draw_gap {xs : List Int} (hx : IsBytes xs) (l : List Int) (hl : spec_l1Open.f l = some (xs, 0)) (K : Nat) (hK : 1048576 < K) : ∃ (p : List Int) (w : Int), spec_DrawSchedGap.f K l = some (p, w) ∧ p.length ≤ 80 := by
  obtain ⟨a, b, c, q, h1, rfl, b0, b1, _⟩ := draw_cfg hx K (by omega)
  obtain ⟨n, hn, n0, n1⟩ := pick_some hx 3 80 (by omega) (by omega) K (by omega)
  obtain ⟨r, q, g, g1, g2, g3⟩ := goes_all hx n a b c (by omega) (by omega) 80 [] (3 + 1) (by simp; omega) (by simp) (by omega)
  obtain ⟨e, he, e0, e1⟩ := pick_some hx q (b + 3) (by omega) (by omega) K (by omega)
  refine ⟨r, e, ?_, g1⟩
  have hg : spec_l20Picks.f K xs (3 + 1) a b c n = some (r, q) := g K (by omega)
  unfold spec_DrawSchedGap.f
  rw [hl]
  simp only [Option.bind_some]
  rw [h1]
  dsimp only [Option.bind_some]
  rw [hn]
  dsimp only [Option.bind_some]
  rw [hg]
  dsimp only [Option.bind_some]
  rw [w64 (by omega) (by omega), he]
  rfl
theorem gap_facts (w : Int) (p : List Int) (j : Nat) (hj : j ≤ p.length) : 0 ≤ ((p.take j).foldl (stp w) (0, 0)).1 ∧ ((p.take j).foldl (stp w) (0, 0)).1 ≤ (p.foldl (stp w) (0, 0)).1 ∧ (p.foldl (stp w) (0, 0)).1 ≤ (p.length : Int) ∧
    (p.foldl (stp w) (0, 0)).1 - ((p.take j).foldl (stp w) (0, 0)).1 ≤ (p.length : Int) - (j : Int) := by
  have f0 := fold_fine (who := w) (p.take j) fine0
  have f1 := fold_fine (who := w) (p.drop j) f0.1
  rw [← List.foldl_append, List.take_append_drop] at f1
  obtain ⟨⟨a0, a1, a2⟩, a3, a4⟩ := f1
  obtain ⟨⟨b0, b1, b2⟩, b3, b4⟩ := f0
  simp only [List.length_take, List.length_drop] at a2 a4 b2 b4
  exact ⟨by omega, by omega, by omega, by omega⟩
theorem FnSchedGapJoin (l m : List Int) (hg : l.length ≤ maxLen ∧ ∀ x ∈ l, (Lit.int .u8 x).wf = true) (_ : m.length ≤ maxLen ∧ ∀ x ∈ m, (Lit.int .u8 x).wf = true) : ∃ k, laws_FnSchedGapJoin.f k l m = some true := by
  obtain ⟨K, hK⟩ : ∃ K, 1048576 < K := ⟨1048577, by omega⟩
  refine ⟨K + 1, ?_⟩
  have yes : laws_FnSchedGapJoin.j0 (K + 1) l m true = some true := by
    simp only [laws_FnSchedGapJoin.j0, if_true]
  unfold laws_FnSchedGapJoin.f
  by_cases h : (l.length : Int) > 1048576
  · rw [if_pos h]
    exact yes
  rw [if_neg h]
  by_cases h2 : (m.length : Int) > 1048576
  · rw [decide_eq_true h2]
    exact yes
  rw [decide_eq_false h2]
  obtain ⟨xs, hx, hb⟩ := open_bytes l hg.2
  obtain ⟨p, w, hd, hp⟩ := draw_gap hb l hx K hK
  rw [laws_FnSchedGapJoin.j0]
  refine sf ff ?_
  refine sb hd ?_
  refine sb (impl_gap_eq p w (by omega) K hK) ?_
  have hw : wrap64 ((p.length : Int) + 1) = (p.length : Int) + 1 := w64 (by omega) (by omega)
  dsimp only
  rw [hw]
  refine sf (by omega) ?_
  have k0 : 0 ≤ (m.length : Int) % ((p.length : Int) + 1) := Int.emod_nonneg _ (by omega)
  have k1 : (m.length : Int) % ((p.length : Int) + 1) < (p.length : Int) + 1 := Int.emod_lt_of_pos _ (by omega)
  generalize (m.length : Int) % ((p.length : Int) + 1) = j at k0 k1
  obtain ⟨j, rfl⟩ := Int.eq_ofNat_of_zero_le k0
  refine st k0 ?_
  refine st (by omega) ?_
  rw [Int.toNat_natCast]
  refine sb (impl_gap_eq (p.take j) w (by simp; omega) K hK) ?_
  refine sb (spec_gap_eq p w (by omega) K hK) ?_
  obtain ⟨g0, g1, g2, g3⟩ := gap_facts w p j (by omega)
  generalize (p.foldl (stp w) (0, 0)).1 = A at *
  generalize ((p.take j).foldl (stp w) (0, 0)).1 = B at *
  refine st rfl ?_
  refine st g1 ?_
  refine st g2 ?_
  rw [w64 (by omega) (by omega), w64 (by omega) (by omega)]
  exact congrArg some (decide_eq_true g3)

end Go.Proofs.Ytpalgpgeicpaoaa.Pure
