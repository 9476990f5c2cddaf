/- Going from mark to mark meets all of them: the law answers true at every code. No condition. -/
import Derived.Test.YtaihpphekkiemaaQFnMarkWalkx3
namespace Go.Proofs.Ytaihpphekkiemaa.Pure
open Go.RowKit Go.Proofs.Ytaihpphekkiemaa.QFnMarkWalk Go.Proofs.YtaihpphekkiemaaW.PrintWords Go.Proofs.YtaihpphekkiemaaW.PrintLast Go.Proofs.YtaihpphekkiemaaW.PrintMore
set_option linter.unusedVariables false
set_option linter.unusedSimpArgs false

theorem w64 {x : Int} (h0 : -9223372036854775808 ≤ x) (h1 : x ≤ 9223372036854775807) : wrap64 x = x := by
  unfold wrap64
  omega
theorem wnext (i : Nat) (h : i < 9223372036854775807) : wrap64 ((i : Int) + 1) = ((i + 1 : Nat) : Int) := by
  unfold wrap64
  omega
theorem rdOf_at {α : Type} (d : α) (l : List α) (i : Nat) (h : i < l.length) : rdOf d l (i : Int) = l[i] := by
  simp [rdOf, List.getD, h]
theorem rd_at (l : List Int) (i : Nat) (h : i < l.length) : rd l (i : Int) = l[i] := by
  simp [rd, List.getD, h]
theorem set_step {α : Type} (l m : List α) (i : Nat) (v : α) (hl : l.length = m.length) (hi : i < m.length) (hv : m[i]? = some v)
    (hp : ∀ j, j < i → l[j]? = m[j]?) : (l.set i v).length = m.length ∧ ∀ j, j < i + 1 → (l.set i v)[j]? = m[j]? := by
  refine ⟨by simp [hl], fun j hj => ?_⟩
  rw [List.getElem?_set]
  by_cases e : i = j
  · subst e
    rw [if_pos rfl, if_pos (by omega), hv]
  · rw [if_neg e]
    exact hp j (by omega)
theorem all_eq {α : Type} (l m : List α) (hl : l.length = m.length) (hp : ∀ j, j < m.length → l[j]? = m[j]?) : l = m := by
  apply List.ext_getElem?
  intro j
  by_cases hj : j < m.length
  · exact hp j hj
  · rw [List.getElem?_eq_none (by omega), List.getElem?_eq_none (by omega)]

theorem b64 {n : Int} (h : (Lit.int .i64 n).wf = true) : -9223372036854775808 ≤ n ∧ n ≤ 9223372036854775807 := by
  simp [Lit.wf, IntKind.min, IntKind.max, IntKind.signed, IntKind.bits] at h
  omega
theorem b8 {n : Int} (h : (Lit.int .u8 n).wf = true) : 0 ≤ n ∧ n ≤ 255 := by
  simp [Lit.wf, IntKind.min, IntKind.max, IntKind.signed, IntKind.bits] at h
  omega

theorem tdiv_nn {a : Int} (h : 0 ≤ a) (b : Int) : Int.tdiv a b = a / b := Int.tdiv_eq_ediv_of_nonneg h
theorem tmod_nn {a : Int} (h : 0 ≤ a) (b : Int) : Int.tmod a b = a % b := Int.tmod_eq_emod_of_nonneg h

theorem xor_nn {a b : Int} (ha : 0 ≤ a) (hb : 0 ≤ b) (ha1 : a < 4611686018427387904) (hb1 : b < 4611686018427387904) : 0 ≤ Go.bits .xor .i64 a b := by
  obtain ⟨m, rfl⟩ := Int.eq_ofNat_of_zero_le ha
  obtain ⟨n, rfl⟩ := Int.eq_ofNat_of_zero_le hb
  have hx : m ^^^ n < 2 ^ 62 := Nat.xor_lt_two_pow (by omega) (by omega)
  have h1 : (BitVec.ofInt 64 (m : Int)).toNat = m := by
    rw [BitVec.ofInt_natCast, BitVec.toNat_ofNat]
    exact Nat.mod_eq_of_lt (by omega)
  have h2 : (BitVec.ofInt 64 (n : Int)).toNat = n := by
    rw [BitVec.ofInt_natCast, BitVec.toNat_ofNat]
    exact Nat.mod_eq_of_lt (by omega)
  have h : Go.bits .xor .i64 (m : Int) (n : Int) = IntKind.i64.wrap ((BitVec.ofInt 64 (m : Int) ^^^ BitVec.ofInt 64 (n : Int)).toNat : Int) := rfl
  rw [h, BitVec.toNat_xor, h1, h2, i64_w, w64 (by omega) (by omega)]
  omega
def IsBytes (xs : List Int) : Prop := xs.length ≤ 2000 ∧ ∀ x ∈ xs, (Lit.int .u8 x).wf = true
theorem rd_byte {xs : List Int} (h : IsBytes xs) (i : Int) : 0 ≤ rd xs i ∧ rd xs i ≤ 255 := by
  unfold rd
  by_cases hi : i.toNat < xs.length
  · have e : xs.getD i.toNat 0 = xs[i.toNat] := by simp [List.getD, hi]
    rw [e]
    exact b8 (h.2 _ (List.getElem_mem hi))
  · have e : xs.getD i.toNat 0 = 0 := by simp [List.getD, hi]
    omega
theorem open_bytes (l : List Int) (hw : ∀ x ∈ l, (Lit.int .u8 x).wf = true) : ∃ xs, spec_l1Open.f l = some (xs, 0) ∧ IsBytes xs := by
  unfold spec_l1Open.f
  by_cases h : (l.length : Int) > 2000
  · rw [if_pos h, if_pos (by omega)]
    exact ⟨_, rfl, by simp; omega, fun x hx => hw x (List.mem_of_mem_take hx)⟩
  · rw [if_neg h]
    exact ⟨_, rfl, by omega, hw⟩
theorem pick_some {xs : List Int} (hx : IsBytes xs) (p n : Int) (hp : 0 ≤ p ∧ p ≤ 1000000) (hn : 1 ≤ n ∧ n ≤ 1000000) (k : Nat) (hk : 0 < k) :
    ∃ v, spec_l1Rd_pick.f k xs p n = some (v, p + 1) ∧ 0 ≤ v ∧ v < n := by
  obtain ⟨k, rfl⟩ : ∃ m, k = m + 1 := ⟨k - 1, by omega⟩
  have hl := hx.1
  unfold spec_l1Rd_pick.f
  rw [if_neg (by omega), w64 (by omega) (by omega)]
  simp only [spec_l1Rd_pick.j0]
  by_cases h0 : xs.length = 0
  · rw [if_pos (by simpa using h0)]
    exact ⟨0, rfl, by omega, by omega⟩
  rw [if_neg (by simpa using h0), w64 (by omega) (by omega), show p + 1 - 1 = p by omega]
  by_cases h1 : p < (xs.length : Int)
  · rw [if_pos h1, if_pos (by omega), if_neg (by omega)]
    obtain ⟨b0, b1⟩ := rd_byte hx p
    rw [w64 (by omega) (by omega)]
    refine ⟨_, rfl, Int.tmod_nonneg _ b0, Int.tmod_lt_of_pos _ (by omega)⟩
  rw [if_neg h1, if_neg (by omega), w64 (x := p * 7) (by omega) (by omega), w64 (x := p * 7 + 3) (by omega) (by omega)]
  have m0 : 0 ≤ Int.tmod p xs.length := Int.tmod_nonneg _ hp.1
  have m1 : Int.tmod p xs.length < xs.length := Int.tmod_lt_of_pos _ (by omega)
  have m2 : 0 ≤ Int.tmod (p * 7 + 3) xs.length := Int.tmod_nonneg _ (by omega)
  have m3 : Int.tmod (p * 7 + 3) xs.length < xs.length := Int.tmod_lt_of_pos _ (by omega)
  rw [if_pos m0, if_pos m1, if_pos m2, if_pos m3, if_neg (by omega)]
  obtain ⟨b0, b1⟩ := rd_byte hx (Int.tmod p xs.length)
  obtain ⟨c0, c1⟩ := rd_byte hx (Int.tmod (p * 7 + 3) xs.length)
  have d0 : 0 ≤ Int.tdiv p xs.length := Int.tdiv_nonneg hp.1 (by omega)
  have d1 : Int.tdiv p xs.length ≤ p := by
    rw [Int.tdiv_eq_ediv_of_nonneg hp.1]
    exact Int.ediv_le_self _ hp.1
  generalize rd xs (Int.tmod p xs.length) = b at *
  generalize rd xs (Int.tmod (p * 7 + 3) xs.length) = c at *
  generalize Int.tdiv p xs.length = q at *
  simp (disch := omega) only [w64]
  generalize he : b * 131 + c * 1117 + p * 29 + q * 53 = e
  have e0 : 0 ≤ e := by omega
  have e1 : e < 4611686018427387904 := by omega
  have f0 : 0 ≤ Int.tdiv e 64 := Int.tdiv_nonneg e0 (by omega)
  have f1 : Int.tdiv e 64 ≤ e := by
    rw [Int.tdiv_eq_ediv_of_nonneg e0]
    exact Int.ediv_le_self _ e0
  rw [w64 (by omega) (by omega)]
  exact ⟨_, rfl, Int.tmod_nonneg _ (xor_nn e0 f0 e1 (by omega)), Int.tmod_lt_of_pos _ (by omega)⟩

theorem marks_loop {xs : List Int} (hx : IsBytes xs) (n : Int) (hn : n ≤ 12) (d : Nat) : ∀ (m : List Bool) (i p : Int) (k : Nat), 0 ≤ i → n - i ≤ d → (0 ≤ p ∧ p + d ≤ 10000) → m.length ≤ 1000 → d + 1 < k →
    ∃ (u : List Bool) (q : Int), spec_l20Marks.l0 k m n i xs p = some (u, q) ∧ p ≤ q ∧ q ≤ p + d ∧ u.length = m.length := by
  induction d with
  | zero =>
    intro m i p k hi hd hp hm hk
    obtain ⟨k, rfl⟩ : ∃ j, k = j + 1 := ⟨k - 1, by omega⟩
    simp only [spec_l20Marks.l0]
    rw [if_neg (by omega)]
    exact ⟨m, p, rfl, by omega, by omega, rfl⟩
  | succ d ih =>
    intro m i p k hi hd hp hm hk
    obtain ⟨k, rfl⟩ : ∃ j, k = j + 1 := ⟨k - 1, by omega⟩
    simp only [spec_l20Marks.l0]
    by_cases h1 : i < n
    · rw [if_pos h1]
      by_cases h2 : (m.length : Int) > 0
      · rw [if_pos h2]
        obtain ⟨v, hv, v0, v1⟩ := pick_some hx p m.length (by omega) (by omega) k (by omega)
        rw [hv]
        simp only [Option.bind_some]
        rw [if_pos v0, if_pos v1, w64 (by omega) (by omega)]
        obtain ⟨u, q, hu, q0, q1, ul⟩ := ih (m.set v.toNat true) (i + 1) (p + 1) k (by omega) (by omega) (by omega) (by simpa using hm) (by omega)
        exact ⟨u, q, hu, by omega, by omega, by simpa using ul⟩
      · rw [if_neg h2]
        exact ⟨m, p, rfl, by omega, by omega, rfl⟩
    · rw [if_neg h1]
      exact ⟨m, p, rfl, by omega, by omega, rfl⟩
theorem marks_j {xs : List Int} (hx : IsBytes xs) (m : List Bool) (p : Int) (K : Nat) (hK : 100 < K) (hp : 0 ≤ p ∧ p ≤ 1000) (hm : m.length ≤ 1000) :
    ∃ (u : List Bool) (q : Int), spec_l20Marks.j0 K m xs p = some (u, q) ∧ p ≤ q ∧ q ≤ p + 20 ∧ u.length = m.length := by
  obtain ⟨K, rfl⟩ : ∃ j, K = j + 1 := ⟨K - 1, by omega⟩
  simp only [spec_l20Marks.j0]
  obtain ⟨v, hv, v0, v1⟩ := pick_some hx p 12 (by omega) (by omega) K (by omega)
  rw [hv]
  simp only [Option.bind_some]
  obtain ⟨u, q, hu, q0, q1, ul⟩ := marks_loop hx v (by omega) 12 m 0 (p + 1) K (by omega) (by omega) (by omega) hm (by omega)
  exact ⟨u, q, hu, by omega, by omega, ul⟩
theorem draw_marks {xs : List Int} (hx : IsBytes xs) (K : Nat) (hK : 100 < K) : ∃ (u : List Bool) (q : Int), spec_l20Marks.f K xs 0 = some (u, q) ∧ 0 ≤ q ∧ q ≤ 30 ∧ u.length ≤ 208 := by
  unfold spec_l20Marks.f
  obtain ⟨v, hv, v0, v1⟩ := pick_some hx 0 11 (by omega) (by omega) K (by omega)
  rw [hv]
  simp only [Option.bind_some]
  have hw : wrap64 (2 + v) = 2 + v := w64 (by omega) (by omega)
  have hnew : ∃ b, spec_MarksNew.f (2 + v) = some (List.replicate ((2 + v) * 16).toNat false, b) := by
    unfold spec_MarksNew.f
    rw [if_neg (by omega), if_neg (by omega), w64 (by omega) (by omega), if_pos (by omega), if_pos (by omega)]
    exact ⟨_, rfl⟩
  obtain ⟨b, hb⟩ := hnew
  rw [hw, hb]
  simp only [Option.bind_some]
  obtain ⟨c, hc, c0, c1⟩ := pick_some hx (0 + 1) 12 (by omega) (by omega) K (by omega)
  rw [hc]
  simp only [Option.bind_some]
  by_cases h : c = 0
  · rw [if_pos h]
    obtain ⟨e, he, e0, e1⟩ := pick_some hx (0 + 1 + 1) 5 (by omega) (by omega) K (by omega)
    rw [he]
    simp only [Option.bind_some]
    rw [if_pos e0, if_pos (by simp; omega)]
    have hr : 0 ≤ rd [0, 15, 16, 200, 208] e ∧ rd [0, 15, 16, 200, 208] e ≤ 208 := by
      have : e = 0 ∨ e = 1 ∨ e = 2 ∨ e = 3 ∨ e = 4 := by omega
      rcases this with rfl | rfl | rfl | rfl | rfl <;> simp [rd]
    rw [if_pos hr.1, if_pos (by omega)]
    obtain ⟨u, q, hu, q0, q1, ul⟩ := marks_j hx (List.replicate (rd [0, 15, 16, 200, 208] e).toNat false) (0 + 1 + 1 + 1) K hK (by omega) (by simp; omega)
    refine ⟨u, q, hu, by omega, by omega, ?_⟩
    rw [ul]
    simp
    omega
  · rw [if_neg h]
    obtain ⟨u, q, hu, q0, q1, ul⟩ := marks_j hx (List.replicate ((2 + v) * 16).toNat false) (0 + 1 + 1) K hK (by omega) (by simp; omega)
    refine ⟨u, q, hu, by omega, by omega, ?_⟩
    rw [ul]
    simp
    omega

theorem words_of (n : Nat) : impl_WordsOk.f (List.replicate n 0) = if (n : Int) % 16 = 0 then (if (n : Int) ≥ 32 then some (decide ((n : Int) ≤ 192)) else some false) else some false := by
  unfold impl_WordsOk.f
  rw [List.length_replicate]
theorem marks_ok (l : List Bool) (hl : l.length ≤ 1048576) : spec_l10Ok.f l = impl_marksOk.f l := by
  unfold impl_marksOk.f
  rw [if_pos (by omega), if_pos (by omega), Int.toNat_natCast, words_of l.length]
  unfold spec_l10Ok.f
  by_cases h : ((l.length : Int) % 16) = 0
  · rw [if_pos h, if_pos h, w64 (by omega) (by omega)]
    by_cases h2 : (l.length : Int) / 16 ≥ 2
    · rw [if_pos h2, if_pos (by omega)]
      simp only [Option.bind_some]
      congr 1
      exact decide_eq_decide.2 (by omega)
    · rw [if_neg h2, if_neg (by omega)]
      rfl
  · rw [if_neg h, if_neg h]
    rfl
theorem marks_some (l : List Bool) (hl : l.length ≤ 1048576) : ∃ b, impl_marksOk.f l = some b := by
  rw [← marks_ok l hl]
  unfold spec_l10Ok.f
  split
  · split <;> exact ⟨_, rfl⟩
  · exact ⟨_, rfl⟩

theorem next_both (l : List Bool) (f t : Int) (hl : l.length ≤ 1048576) (d : Nat) : ∀ (i : Nat), i ≤ l.length → l.length - i = d →
    ∃ r, (∀ k, d < k → spec_MarkNext.l0 k l f t (i : Int) = some r) ∧
      ∀ k : Nat, 0 < k → (l.length : Int) - mx (i : Int) (mx f 0) < k → impl_MarkNext.l0 k l t (mx (i : Int) (mx f 0)) = some r := by
  induction d with
  | zero =>
    intro i hi hd
    refine ⟨-1, fun k hk => ?_, fun k hk hk2 => ?_⟩
    · obtain ⟨k, rfl⟩ : ∃ m, k = m + 1 := ⟨k - 1, by omega⟩
      simp only [spec_MarkNext.l0]
      rw [if_neg (by omega)]
    · obtain ⟨k, rfl⟩ : ∃ m, k = m + 1 := ⟨k - 1, by omega⟩
      simp only [impl_MarkNext.l0]
      rw [if_neg (by unfold mx mn; repeat' split <;> omega)]
  | succ d ih =>
    intro i hi hd
    obtain ⟨r, h1, h2⟩ := ih (i + 1) (by omega) (by omega)
    have hlt : (i : Int) < (l.length : Int) := by omega
    by_cases hf : (i : Int) < f
    · have e : mx ((i : Nat) : Int) (mx f 0) = mx ((i + 1 : Nat) : Int) (mx f 0) := by unfold mx; repeat' split <;> omega
      refine ⟨r, fun k hk => ?_, fun k hk hk2 => ?_⟩
      · obtain ⟨k, rfl⟩ : ∃ m, k = m + 1 := ⟨k - 1, by omega⟩
        simp only [spec_MarkNext.l0]
        rw [if_pos hlt, if_neg (by omega), wnext i (by omega)]
        exact h1 k (by omega)
      · rw [e] at hk2 ⊢
        exact h2 k hk hk2
    have e1 : mx ((i : Nat) : Int) (mx f 0) = (i : Int) := by unfold mx; repeat' split <;> omega
    have e2 : mx ((i + 1 : Nat) : Int) (mx f 0) = ((i + 1 : Nat) : Int) := by unfold mx; repeat' split <;> omega
    rw [e1]
    rw [e2] at h2
    by_cases ht : (i : Int) < t
    · have hm : (i : Int) < mn t (l.length : Int) := by unfold mn; split <;> omega
      by_cases hb : l[i]'(by omega) = true
      · refine ⟨(i : Int), fun k hk => ?_, fun k hk hk2 => ?_⟩
        · obtain ⟨k, rfl⟩ : ∃ m, k = m + 1 := ⟨k - 1, by omega⟩
          simp only [spec_MarkNext.l0]
          rw [if_pos hlt, if_pos (by omega), if_pos ht, if_pos (by omega), rdOf_at false l i (by omega), if_pos hb]
        · obtain ⟨k, rfl⟩ : ∃ m, k = m + 1 := ⟨k - 1, by omega⟩
          simp only [impl_MarkNext.l0]
          rw [if_pos hm, if_pos (by omega), if_pos hlt, rdOf_at false l i (by omega), if_pos hb]
      · refine ⟨r, fun k hk => ?_, fun k hk hk2 => ?_⟩
        · obtain ⟨k, rfl⟩ : ∃ m, k = m + 1 := ⟨k - 1, by omega⟩
          simp only [spec_MarkNext.l0]
          rw [if_pos hlt, if_pos (by omega), if_pos ht, if_pos (by omega), rdOf_at false l i (by omega), if_neg hb, wnext i (by omega)]
          exact h1 k (by omega)
        · obtain ⟨k, rfl⟩ : ∃ m, k = m + 1 := ⟨k - 1, by omega⟩
          simp only [impl_MarkNext.l0]
          rw [if_pos hm, if_pos (by omega), if_pos hlt, rdOf_at false l i (by omega), if_neg hb, wnext i (by omega)]
          exact h2 k (by omega) (by omega)
    · have hm : ¬ (i : Int) < mn t (l.length : Int) := by unfold mn; split <;> omega
      have hr : r = -1 := by
        have hm2 : ¬ ((i + 1 : Nat) : Int) < mn t (l.length : Int) := by unfold mn; split <;> omega
        have := h2 (l.length + 1) (by omega) (by omega)
        simp only [impl_MarkNext.l0] at this
        rw [if_neg hm2] at this
        exact (Option.some.inj this).symm
      subst hr
      refine ⟨-1, fun k hk => ?_, fun k hk hk2 => ?_⟩
      · obtain ⟨k, rfl⟩ : ∃ m, k = m + 1 := ⟨k - 1, by omega⟩
        simp only [spec_MarkNext.l0]
        rw [if_pos hlt, if_pos (by omega), if_neg ht, wnext i (by omega)]
        exact h1 k (by omega)
      · obtain ⟨k, rfl⟩ : ∃ m, k = m + 1 := ⟨k - 1, by omega⟩
        simp only [impl_MarkNext.l0]
        rw [if_neg hm]
theorem mark_next (l : List Bool) (f t : Int) (hl : l.length ≤ 1048576) (K : Nat) (hK : 1048576 < K) : ∃ r, spec_MarkNext.f K l f t = some r ∧ impl_MarkNext.f K l f t = some r := by
  unfold spec_MarkNext.f impl_MarkNext.f
  rw [marks_ok l hl]
  obtain ⟨b, hb⟩ := marks_some l hl
  rw [hb]
  simp only [Option.bind_some]
  cases b with
  | false => exact ⟨-1, rfl, rfl⟩
  | true =>
    rw [if_pos rfl, if_pos rfl]
    obtain ⟨r, h1, h2⟩ := next_both l f t hl l.length 0 (by omega) (by omega)
    have e : mx ((0 : Nat) : Int) (mx f 0) = mx f 0 := by unfold mx; repeat' split <;> omega
    rw [e] at h2
    exact ⟨r, h1 K (by omega), h2 K (by omega) (by unfold mx; repeat' split <;> omega)⟩

def okB (l : List Bool) : Bool := decide ((l.length : Int) % 16 = 0 ∧ 32 ≤ l.length ∧ l.length ≤ 192)
theorem marks_eq (l : List Bool) (hl : l.length ≤ 1048576) : impl_marksOk.f l = some (okB l) := by
  unfold impl_marksOk.f okB
  rw [if_pos (by omega), if_pos (by omega), Int.toNat_natCast, words_of l.length]
  by_cases h : ((l.length : Int) % 16) = 0
  · rw [if_pos h]
    by_cases h2 : (l.length : Int) ≥ 32
    · rw [if_pos h2]
      simp only [Option.bind_some]
      exact congrArg some (decide_eq_decide.2 (by omega))
    · rw [if_neg h2]
      exact congrArg some (decide_eq_false (by omega)).symm
  · rw [if_neg h]
    exact congrArg some (decide_eq_false (by omega)).symm

def cn : List Bool → Int
  | [] => 0
  | b :: l => (if b = true then 1 else 0) + cn l
theorem cn_bound (l : List Bool) : 0 ≤ cn l ∧ cn l ≤ l.length := by
  induction l with
  | nil => simp [cn]
  | cons b l ih =>
    simp only [cn, List.length_cons]
    split <;> omega
theorem impl_seg (s : List Bool) (hs : s.length ≤ 192) (d : Nat) : ∀ (k i : Nat) (c : Int), i ≤ s.length → s.length - i = d → d < k → 0 ≤ c ∧ c ≤ i →
    impl_MarkCount.l0 k c s (s.length : Int) (i : Int) = some (c + cn (s.drop i)) := by
  induction d with
  | zero =>
    intro k i c hi hd hk hc
    obtain ⟨k, rfl⟩ : ∃ m, k = m + 1 := ⟨k - 1, by omega⟩
    simp only [impl_MarkCount.l0]
    rw [if_neg (by omega), List.drop_of_length_le (by omega)]
    simp [cn]
  | succ d ih =>
    intro k i c hi hd hk hc
    obtain ⟨k, rfl⟩ : ∃ m, k = m + 1 := ⟨k - 1, by omega⟩
    simp only [impl_MarkCount.l0]
    rw [if_pos (by omega), if_pos (by omega), if_pos (by omega), rdOf_at false s i (by omega), wnext i (by omega), List.drop_eq_getElem_cons (by omega)]
    unfold impl_truth.f
    simp only [cn]
    by_cases hb : s[i] = true
    · rw [if_pos hb, if_pos hb]
      simp only [Option.bind_some]
      rw [w64 (by omega) (by omega), ih k (i + 1) (c + 1) (by omega) (by omega) (by omega) (by omega)]
      exact congrArg some (by omega)
    · rw [if_neg hb, if_neg hb]
      simp only [Option.bind_some]
      rw [w64 (by omega) (by omega), ih k (i + 1) (c + 0) (by omega) (by omega) (by omega) (by omega)]
      exact congrArg some (by omega)
def cntOf (l : List Bool) (r : Int) : Int := if okB l = true ∧ 0 ≤ r ∧ r * 16 + 16 ≤ (l.length : Int) then cn ((l.take (r.toNat * 16 + 16)).drop (r.toNat * 16)) else 0
theorem mark_count (l : List Bool) (r : Int) (hl : l.length ≤ 1048576) (hr : -9223372036854775808 ≤ r ∧ r ≤ 9223372036854775807) :
    ∃ n, (∀ K, 1048580 < K → impl_MarkCount.f K l r = some n) ∧ n = cntOf l r := by
  unfold impl_MarkCount.f cntOf
  rw [marks_eq l hl]
  simp only [Option.bind_some]
  have none_of : ∀ K, 1048580 < K → impl_MarkCount.j0 K l r true = some 0 := by
    intro K hK
    obtain ⟨K, rfl⟩ : ∃ m, K = m + 1 := ⟨K - 1, by omega⟩
    simp only [impl_MarkCount.j0, if_true]
  cases hok : okB l with
  | false =>
    refine ⟨0, fun K hK => ?_, by simp⟩
    rw [if_neg (by simp)]
    exact none_of K hK
  | true =>
    have hk := of_decide_eq_true hok
    by_cases h0 : r < 0
    · refine ⟨0, fun K hK => ?_, by rw [if_neg (by omega)]⟩
      rw [if_pos rfl, if_pos h0]
      exact none_of K hK
    by_cases h1 : r ≥ (l.length : Int) / 16
    · refine ⟨0, fun K hK => ?_, by rw [if_neg (by omega)]⟩
      rw [if_pos rfl, if_neg h0, w64 (by omega) (by omega), decide_eq_true h1]
      exact none_of K hK
    · obtain ⟨q, rfl⟩ : ∃ q : Nat, r = (q : Int) := ⟨r.toNat, by omega⟩
      have hq : q * 16 + 16 ≤ l.length := by omega
      have hlt : ((l.take (q * 16 + 16)).drop (q * 16)).length = 16 := by simp; omega
      have hi := impl_seg ((l.take (q * 16 + 16)).drop (q * 16)) (by omega) 16
      refine ⟨cn ((l.take (q * 16 + 16)).drop (q * 16)), fun K hK => ?_, ?_⟩
      · obtain ⟨K, rfl⟩ : ∃ m, K = m + 1 := ⟨K - 1, by omega⟩
        rw [if_pos rfl, if_neg h0, w64 (by omega) (by omega), decide_eq_false h1]
        simp only [impl_MarkCount.j0]
        rw [if_neg (by simp), w64 (x := (q : Int) * 16) (by omega) (by omega), w64 (x := (q : Int) + 1) (by omega) (by omega), w64 (by omega) (by omega), if_pos (by omega), if_pos (by omega), if_pos (by omega),
          show (((q : Int) + 1) * 16).toNat = q * 16 + 16 by omega, show ((q : Int) * 16).toNat = q * 16 by omega]
        have := hi K 0 0 (by omega) (by omega) (by omega) (by omega)
        simpa using this
      · rw [if_pos (by simp; omega), Int.toNat_natCast]

theorem impl_has (l : List Bool) (i : Nat) (hl : l.length ≤ 1048576) (hi : i < l.length) : impl_MarkHas.f l (i : Int) = some (okB l && l[i]) := by
  unfold impl_MarkHas.f
  rw [marks_eq l hl]
  simp only [Option.bind_some]
  cases okB l with
  | false => rfl
  | true =>
    rw [if_pos rfl, if_pos (by omega), if_pos (by omega), if_pos (by omega), rdOf_at false l i hi]
    simp

theorem cn_append (a b : List Bool) : cn (a ++ b) = cn a + cn b := by
  induction a with
  | nil => simp [cn]
  | cons x a ih =>
    simp only [List.cons_append, cn, ih]
    omega
theorem cn_take (l : List Bool) (i : Nat) (hi : i < l.length) : cn (l.take (i + 1)) = cn (l.take i) + (if l[i] = true then 1 else 0) := by
  rw [List.take_succ_eq_append_getElem hi, cn_append]
  simp [cn]
theorem impl_next (l : List Bool) (d : Nat) (hl : l.length ≤ 1048576) : ∀ (k i : Nat), i ≤ l.length → l.length - i = d → d < k →
    ∃ r, impl_MarkNext.l0 k l (l.length : Int) (i : Int) = some r ∧ ((∃ j : Nat, ∃ h : j < l.length, r = (j : Int) ∧ i ≤ j ∧ l[j] = true ∧ cn (l.take j) = cn (l.take i)) ∨ (r = -1 ∧ cn l = cn (l.take i))) := by
  have hm : mn (l.length : Int) (l.length : Int) = (l.length : Int) := by
    unfold mn
    split <;> rfl
  induction d with
  | zero =>
    intro k i hi hd hk
    obtain ⟨k, rfl⟩ : ∃ m, k = m + 1 := ⟨k - 1, by omega⟩
    simp only [impl_MarkNext.l0]
    rw [hm, if_neg (by omega)]
    exact ⟨-1, rfl, .inr ⟨rfl, by rw [List.take_of_length_le (by omega)]⟩⟩
  | succ d ih =>
    intro k i hi hd hk
    obtain ⟨k, rfl⟩ : ∃ m, k = m + 1 := ⟨k - 1, by omega⟩
    simp only [impl_MarkNext.l0]
    rw [hm, if_pos (by omega), if_pos (by omega), if_pos (by omega), rdOf_at false l i (by omega), wnext i (by omega)]
    by_cases hb : l[i] = true
    · rw [if_pos hb]
      exact ⟨_, rfl, .inl ⟨i, by omega, rfl, Nat.le_refl _, hb, rfl⟩⟩
    · rw [if_neg hb]
      obtain ⟨r, h1, h2⟩ := ih k (i + 1) (by omega) (by omega) (by omega)
      have ht : cn (l.take (i + 1)) = cn (l.take i) := by
        rw [cn_take l i (by omega), if_neg hb]
        omega
      rw [ht] at h2
      refine ⟨r, h1, ?_⟩
      rcases h2 with ⟨j, hj, e1, e2, e3, e4⟩ | h2
      · exact .inl ⟨j, hj, e1, by omega, e3, e4⟩
      · exact .inr h2
theorem impl_next_f (l : List Bool) (hl : l.length ≤ 1048576) (i : Nat) (hi : i ≤ l.length) (K : Nat) (hK : 1048576 < K) : ∃ r, impl_MarkNext.f K l (i : Int) (l.length : Int) = some r ∧
    ((okB l = true ∧ ∃ j : Nat, ∃ h : j < l.length, r = (j : Int) ∧ i ≤ j ∧ l[j] = true ∧ cn (l.take j) = cn (l.take i)) ∨ (r = -1 ∧ (okB l = true → cn l = cn (l.take i)))) := by
  unfold impl_MarkNext.f
  rw [marks_eq l hl]
  simp only [Option.bind_some]
  cases hok : okB l with
  | false => exact ⟨-1, rfl, .inr ⟨rfl, fun h => by simp at h⟩⟩
  | true =>
    have e : mx (i : Int) 0 = (i : Int) := by
      unfold mx
      split <;> omega
    rw [if_pos rfl, e]
    obtain ⟨r, h1, h2⟩ := impl_next l (l.length - i) hl K i hi rfl (by omega)
    refine ⟨r, h1, ?_⟩
    rcases h2 with h2 | h2
    · exact .inl ⟨rfl, h2⟩
    · exact .inr ⟨h2.1, fun _ => h2.2⟩

theorem sum_loop (l : List Bool) (hl : l.length ≤ 1048576) (n : Int) (d : Nat) : ∀ (k q : Nat) (c : Int), q ≤ 12 → 12 - q = d → 1048600 + d < k → c = (if okB l = true then cn (l.take (q * 16)) else 0) →
    laws_FnMarkWalk.l1 k l n c (q : Int) = some (n == (if okB l = true then cn l else 0)) := by
  induction d with
  | zero =>
    intro k q c hq hd hk hc
    obtain ⟨k, rfl⟩ : ∃ m, k = m + 1 := ⟨k - 1, by omega⟩
    simp only [laws_FnMarkWalk.l1]
    rw [if_neg (by omega), hc]
    cases hok : okB l with
    | false => rfl
    | true =>
      have hk := of_decide_eq_true hok
      rw [List.take_of_length_le (by omega)]
  | succ d ih =>
    intro k q c hq hd hk hc
    obtain ⟨k, rfl⟩ : ∃ m, k = m + 1 := ⟨k - 1, by omega⟩
    simp only [laws_FnMarkWalk.l1]
    obtain ⟨v, hv, hvc⟩ := mark_count l (q : Int) hl (by omega)
    rw [if_pos (by omega), hv k (by omega)]
    simp only [Option.bind_some]
    rw [wnext q (by omega)]
    have hstep : c + v = (if okB l = true then cn (l.take ((q + 1) * 16)) else 0) ∧ 0 ≤ c ∧ c ≤ 192 ∧ 0 ≤ v ∧ v ≤ 192 := by
      rw [hc, hvc]
      unfold cntOf
      cases hok : okB l with
      | false => simp
      | true =>
        have hk := of_decide_eq_true hok
        have hb := cn_bound (l.take (q * 16))
        rw [List.length_take] at hb
        simp only [if_true, Int.toNat_natCast]
        by_cases h : q * 16 + 16 ≤ l.length
        · rw [if_pos (by simp; omega)]
          have hb2 := cn_bound ((l.take (q * 16 + 16)).drop (q * 16))
          rw [List.length_drop, List.length_take] at hb2
          have e : l.take ((q + 1) * 16) = l.take (q * 16) ++ (l.take (q * 16 + 16)).drop (q * 16) := by
            have := (List.take_append_drop (q * 16) (l.take (q * 16 + 16))).symm
            rw [List.take_take, Nat.min_eq_left (by omega)] at this
            rw [Nat.succ_mul]
            exact this
          rw [e, cn_append]
          omega
        · rw [if_neg (by omega), List.take_of_length_le (i := (q + 1) * 16) (by omega), List.take_of_length_le (i := q * 16) (by omega)]
          have hb3 := cn_bound l
          omega
    obtain ⟨s1, s2, s3, s4, s5⟩ := hstep
    rw [w64 (by omega) (by omega)]
    exact ih k (q + 1) (c + v) (by omega) (by omega) (by omega) s1
theorem walk_loop (l : List Bool) (hl : l.length ≤ 1048576) (d : Nat) : ∀ (k n : Nat) (a : Int), 193 - n = d → 1049000 + 2 * d < k →
    ((okB l = true ∧ ∃ j : Nat, ∃ h : j < l.length, a = (j : Int) ∧ l[j] = true ∧ cn (l.take j) = n) ∨ (a = -1 ∧ (n : Int) = (if okB l = true then cn l else 0))) →
    laws_FnMarkWalk.l0 k l (n : Int) a (n : Int) = some true := by
  induction d with
  | zero =>
    intro k n a hd hk h
    exfalso
    rcases h with ⟨hok, j, hj, _, _, hc⟩ | ⟨_, hc⟩
    · have hk := of_decide_eq_true hok
      have hb := cn_bound (l.take j)
      rw [List.length_take] at hb
      omega
    · cases hok : okB l with
      | false =>
        rw [hok] at hc
        simp at hc
        omega
      | true =>
        have hk := of_decide_eq_true hok
        have hb := cn_bound l
        rw [hok, if_pos rfl] at hc
        omega
  | succ d ih =>
    intro k n a hd hk h
    obtain ⟨k, rfl⟩ : ∃ m, k = m + 1 + 1 := ⟨k - 2, by omega⟩
    simp only [laws_FnMarkWalk.l0]
    rw [if_pos (by omega)]
    simp only [laws_FnMarkWalk.j1]
    rcases h with ⟨hok, j, hj, rfl, hb, hc⟩ | ⟨rfl, hc⟩
    · have hkk := of_decide_eq_true hok
      rw [if_pos (by simp), impl_has l j hl hj, hok, hb]
      simp only [Option.bind_some, Bool.and_self, if_true]
      obtain ⟨r, h1, h2⟩ := mark_next l (j : Int) (l.length : Int) hl k (by omega)
      have hr : r = (j : Int) := by
        have : impl_MarkNext.f k l (j : Int) (l.length : Int) = some (j : Int) := by
          unfold impl_MarkNext.f
          rw [marks_eq l hl, hok]
          simp only [Option.bind_some, if_true]
          have e : mx (j : Int) 0 = (j : Int) := by
            unfold mx
            split <;> omega
          obtain ⟨k2, rfl⟩ : ∃ m, k = m + 1 := ⟨k - 1, by omega⟩
          have hm : mn (l.length : Int) (l.length : Int) = (l.length : Int) := by
            unfold mn
            split <;> rfl
          rw [e]
          simp only [impl_MarkNext.l0]
          rw [hm, if_pos (by omega), if_pos (by omega), if_pos (by omega), rdOf_at false l j hj, if_pos hb]
        rw [this] at h2
        exact (Option.some.inj h2).symm
      rw [h1, hr]
      simp only [Option.bind_some, if_true]
      rw [wnext j (by omega), wnext n (by omega)]
      have ht : cn (l.take (j + 1)) = ((n + 1 : Nat) : Int) := by
        rw [cn_take l j hj, if_pos hb, hc]
        omega
      have d1 : 193 - (n + 1) = d := by omega
      have d2 : 1049000 + 2 * d < k := by omega
      obtain ⟨r', h3, h4⟩ := impl_next_f l hl (j + 1) (by omega) k (by omega)
      rw [h3]
      simp only [Option.bind_some]
      refine ih k (n + 1) r' d1 d2 ?_
      rw [ht] at h4
      rcases h4 with ⟨_, i, hi, e1, _, e3, e4⟩ | ⟨e1, e2⟩
      · exact .inl ⟨hok, i, hi, e1, e3, e4⟩
      · refine .inr ⟨e1, ?_⟩
        rw [if_pos hok]
        exact (e2 hok).symm
    · have hs : laws_FnMarkWalk.l1 k l (n : Int) 0 0 = some ((n : Int) == (if okB l = true then cn l else 0)) := sum_loop l hl (n : Int) 12 k 0 0 (by omega) (by omega) (by omega) (by simp [cn])
      rw [if_neg (by simp), hs, hc]
      simp
theorem FnMarkWalk (l : List Int) (hg : l.length ≤ maxLen ∧ ∀ x ∈ l, (Lit.int .u8 x).wf = true) : ∃ k, laws_FnMarkWalk.f k l = some true := by
  obtain ⟨K, hK⟩ : ∃ K, 1050000 < K := ⟨1050001, by omega⟩
  refine ⟨K, ?_⟩
  unfold laws_FnMarkWalk.f
  by_cases h : (l.length : Int) > 1048576
  · rw [if_pos h]
  rw [if_neg h]
  obtain ⟨xs, hx, hb⟩ := open_bytes l hg.2
  obtain ⟨m, q, hm, q0, q1, ml⟩ := draw_marks hb K (by omega)
  obtain ⟨v, hv, v0, v1⟩ := pick_some hb q 210 (by omega) (by omega) K (by omega)
  obtain ⟨u, hu, u0, u1⟩ := pick_some hb (q + 1) 100 (by omega) (by omega) K (by omega)
  simp only [spec_DrawMarkNext.f, hx, hm, hv, hu, Option.bind_some]
  obtain ⟨r, h1, h2⟩ := impl_next_f m (by omega) 0 (by omega) K (by omega)
  have h1' : impl_MarkNext.f K m 0 (m.length : Int) = some r := h1
  rw [h1']
  simp only [Option.bind_some]
  refine walk_loop m (by omega) 193 K 0 r (by omega) (by omega) ?_
  simp only [List.take_zero, cn] at h2
  rcases h2 with ⟨hok, i, hi, e1, _, e3, e4⟩ | ⟨e1, e2⟩
  · exact .inl ⟨hok, i, hi, e1, e3, e4⟩
  · refine .inr ⟨e1, ?_⟩
    cases hok : okB m with
    | false => simp
    | true =>
      rw [if_pos rfl, e2 hok]
      rfl

end Go.Proofs.Ytaihpphekkiemaa.Pure
