/- A mark that is set is found, and no other: the law answers true at every code. No condition. -/
import Derived.Test.YtaihpphekkiemaaQFnMarksx3
namespace Go.Proofs.Ytaihpphekkiemaa.Pure
open Go.RowKit Go.Proofs.Ytaihpphekkiemaa.QFnMarks Go.Proofs.YtaihpphekkiemaaW.PrintWords Go.Proofs.YtaihpphekkiemaaW.PrintLast Go.Proofs.YtaihpphekkiemaaW.PrintMore
set_option linter.unusedVariables false
set_option linter.unusedSimpArgs false

theorem w64 {x : Int} (h0 : -9223372036854775808 ≤ x) (h1 : x ≤ 9223372036854775807) : wrap64 x = x := by
  unfold wrap64
  omega
theorem wnext (i : Nat) (h : i < 9223372036854775807) : wrap64 ((i : Int) + 1) = ((i + 1 : Nat) : Int) := by
  unfold wrap64
  omega
theorem rdOf_at {α : Type} (d : α) (l : List α) (i : Nat) (h : i < l.length) : rdOf d l (i : Int) = l[i] := by
  simp [rdOf, List.getD, h]
theorem rd_at (l : List Int) (i : Nat) (h : i < l.length) : rd l (i : Int) = l[i] := by
  simp [rd, List.getD, h]
theorem set_step {α : Type} (l m : List α) (i : Nat) (v : α) (hl : l.length = m.length) (hi : i < m.length) (hv : m[i]? = some v)
    (hp : ∀ j, j < i → l[j]? = m[j]?) : (l.set i v).length = m.length ∧ ∀ j, j < i + 1 → (l.set i v)[j]? = m[j]? := by
  refine ⟨by simp [hl], fun j hj => ?_⟩
  rw [List.getElem?_set]
  by_cases e : i = j
  · subst e
    rw [if_pos rfl, if_pos (by omega), hv]
  · rw [if_neg e]
    exact hp j (by omega)
theorem all_eq {α : Type} (l m : List α) (hl : l.length = m.length) (hp : ∀ j, j < m.length → l[j]? = m[j]?) : l = m := by
  apply List.ext_getElem?
  intro j
  by_cases hj : j < m.length
  · exact hp j hj
  · rw [List.getElem?_eq_none (by omega), List.getElem?_eq_none (by omega)]

theorem b64 {n : Int} (h : (Lit.int .i64 n).wf = true) : -9223372036854775808 ≤ n ∧ n ≤ 9223372036854775807 := by
  simp [Lit.wf, IntKind.min, IntKind.max, IntKind.signed, IntKind.bits] at h
  omega
theorem b8 {n : Int} (h : (Lit.int .u8 n).wf = true) : 0 ≤ n ∧ n ≤ 255 := by
  simp [Lit.wf, IntKind.min, IntKind.max, IntKind.signed, IntKind.bits] at h
  omega

theorem tdiv_nn {a : Int} (h : 0 ≤ a) (b : Int) : Int.tdiv a b = a / b := Int.tdiv_eq_ediv_of_nonneg h
theorem tmod_nn {a : Int} (h : 0 ≤ a) (b : Int) : Int.tmod a b = a % b := Int.tmod_eq_emod_of_nonneg h

theorem xor_nn {a b : Int} (ha : 0 ≤ a) (hb : 0 ≤ b) (ha1 : a < 4611686018427387904) (hb1 : b < 4611686018427387904) : 0 ≤ Go.bits .xor .i64 a b := by
  obtain ⟨m, rfl⟩ := Int.eq_ofNat_of_zero_le ha
  obtain ⟨n, rfl⟩ := Int.eq_ofNat_of_zero_le hb
  have hx : m ^^^ n < 2 ^ 62 := Nat.xor_lt_two_pow (by omega) (by omega)
  have h1 : (BitVec.ofInt 64 (m : Int)).toNat = m := by
    rw [BitVec.ofInt_natCast, BitVec.toNat_ofNat]
    exact Nat.mod_eq_of_lt (by omega)
  have h2 : (BitVec.ofInt 64 (n : Int)).toNat = n := by
    rw [BitVec.ofInt_natCast, BitVec.toNat_ofNat]
    exact Nat.mod_eq_of_lt (by omega)
  have h : Go.bits .xor .i64 (m : Int) (n : Int) = IntKind.i64.wrap ((BitVec.ofInt 64 (m : Int) ^^^ BitVec.ofInt 64 (n : Int)).toNat : Int) := rfl
  rw [h, BitVec.toNat_xor, h1, h2, i64_w, w64 (by omega) (by omega)]
  omega
def IsBytes (xs : List Int) : Prop := xs.length ≤ 2000 ∧ ∀ x ∈ xs, (Lit.int .u8 x).wf = true
theorem rd_byte {xs : List Int} (h : IsBytes xs) (i : Int) : 0 ≤ rd xs i ∧ rd xs i ≤ 255 := by
  unfold rd
  by_cases hi : i.toNat < xs.length
  · have e : xs.getD i.toNat 0 = xs[i.toNat] := by simp [List.getD, hi]
    rw [e]
    exact b8 (h.2 _ (List.getElem_mem hi))
  · have e : xs.getD i.toNat 0 = 0 := by simp [List.getD, hi]
    omega
theorem open_bytes (l : List Int) (hw : ∀ x ∈ l, (Lit.int .u8 x).wf = true) : ∃ xs, spec_l1Open.f l = some (xs, 0) ∧ IsBytes xs := by
  unfold spec_l1Open.f
  by_cases h : (l.length : Int) > 2000
  · rw [if_pos h, if_pos (by omega)]
    exact ⟨_, rfl, by simp; omega, fun x hx => hw x (List.mem_of_mem_take hx)⟩
  · rw [if_neg h]
    exact ⟨_, rfl, by omega, hw⟩
theorem pick_some {xs : List Int} (hx : IsBytes xs) (p n : Int) (hp : 0 ≤ p ∧ p ≤ 1000000) (hn : 1 ≤ n ∧ n ≤ 1000000) (k : Nat) (hk : 0 < k) :
    ∃ v, spec_l1Rd_pick.f k xs p n = some (v, p + 1) ∧ 0 ≤ v ∧ v < n := by
  obtain ⟨k, rfl⟩ : ∃ m, k = m + 1 := ⟨k - 1, by omega⟩
  have hl := hx.1
  unfold spec_l1Rd_pick.f
  rw [if_neg (by omega), w64 (by omega) (by omega)]
  simp only [spec_l1Rd_pick.j0]
  by_cases h0 : xs.length = 0
  · rw [if_pos (by simpa using h0)]
    exact ⟨0, rfl, by omega, by omega⟩
  rw [if_neg (by simpa using h0), w64 (by omega) (by omega), show p + 1 - 1 = p by omega]
  by_cases h1 : p < (xs.length : Int)
  · rw [if_pos h1, if_pos (by omega), if_neg (by omega)]
    obtain ⟨b0, b1⟩ := rd_byte hx p
    rw [w64 (by omega) (by omega)]
    refine ⟨_, rfl, Int.tmod_nonneg _ b0, Int.tmod_lt_of_pos _ (by omega)⟩
  rw [if_neg h1, if_neg (by omega), w64 (x := p * 7) (by omega) (by omega), w64 (x := p * 7 + 3) (by omega) (by omega)]
  have m0 : 0 ≤ Int.tmod p xs.length := Int.tmod_nonneg _ hp.1
  have m1 : Int.tmod p xs.length < xs.length := Int.tmod_lt_of_pos _ (by omega)
  have m2 : 0 ≤ Int.tmod (p * 7 + 3) xs.length := Int.tmod_nonneg _ (by omega)
  have m3 : Int.tmod (p * 7 + 3) xs.length < xs.length := Int.tmod_lt_of_pos _ (by omega)
  rw [if_pos m0, if_pos m1, if_pos m2, if_pos m3, if_neg (by omega)]
  obtain ⟨b0, b1⟩ := rd_byte hx (Int.tmod p xs.length)
  obtain ⟨c0, c1⟩ := rd_byte hx (Int.tmod (p * 7 + 3) xs.length)
  have d0 : 0 ≤ Int.tdiv p xs.length := Int.tdiv_nonneg hp.1 (by omega)
  have d1 : Int.tdiv p xs.length ≤ p := by
    rw [Int.tdiv_eq_ediv_of_nonneg hp.1]
    exact Int.ediv_le_self _ hp.1
  generalize rd xs (Int.tmod p xs.length) = b at *
  generalize rd xs (Int.tmod (p * 7 + 3) xs.length) = c at *
  generalize Int.tdiv p xs.length = q at *
  simp (disch := omega) only [w64]
  generalize he : b * 131 + c * 1117 + p * 29 + q * 53 = e
  have e0 : 0 ≤ e := by omega
  have e1 : e < 4611686018427387904 := by omega
  have f0 : 0 ≤ Int.tdiv e 64 := Int.tdiv_nonneg e0 (by omega)
  have f1 : Int.tdiv e 64 ≤ e := by
    rw [Int.tdiv_eq_ediv_of_nonneg e0]
    exact Int.ediv_le_self _ e0
  rw [w64 (by omega) (by omega)]
  exact ⟨_, rfl, Int.tmod_nonneg _ (xor_nn e0 f0 e1 (by omega)), Int.tmod_lt_of_pos _ (by omega)⟩

theorem marks_loop {xs : List Int} (hx : IsBytes xs) (n : Int) (hn : n ≤ 12) (d : Nat) : ∀ (m : List Bool) (i p : Int) (k : Nat), 0 ≤ i → n - i ≤ d → (0 ≤ p ∧ p + d ≤ 10000) → m.length ≤ 1000 → d + 1 < k →
    ∃ (u : List Bool) (q : Int), spec_l20Marks.l0 k m n i xs p = some (u, q) ∧ p ≤ q ∧ q ≤ p + d ∧ u.length = m.length := by
  induction d with
  | zero =>
    intro m i p k hi hd hp hm hk
    obtain ⟨k, rfl⟩ : ∃ j, k = j + 1 := ⟨k - 1, by omega⟩
    simp only [spec_l20Marks.l0]
    rw [if_neg (by omega)]
    exact ⟨m, p, rfl, by omega, by omega, rfl⟩
  | succ d ih =>
    intro m i p k hi hd hp hm hk
    obtain ⟨k, rfl⟩ : ∃ j, k = j + 1 := ⟨k - 1, by omega⟩
    simp only [spec_l20Marks.l0]
    by_cases h1 : i < n
    · rw [if_pos h1]
      by_cases h2 : (m.length : Int) > 0
      · rw [if_pos h2]
        obtain ⟨v, hv, v0, v1⟩ := pick_some hx p m.length (by omega) (by omega) k (by omega)
        rw [hv]
        simp only [Option.bind_some]
        rw [if_pos v0, if_pos v1, w64 (by omega) (by omega)]
        obtain ⟨u, q, hu, q0, q1, ul⟩ := ih (m.set v.toNat true) (i + 1) (p + 1) k (by omega) (by omega) (by omega) (by simpa using hm) (by omega)
        exact ⟨u, q, hu, by omega, by omega, by simpa using ul⟩
      · rw [if_neg h2]
        exact ⟨m, p, rfl, by omega, by omega, rfl⟩
    · rw [if_neg h1]
      exact ⟨m, p, rfl, by omega, by omega, rfl⟩
theorem marks_j {xs : List Int} (hx : IsBytes xs) (m : List Bool) (p : Int) (K : Nat) (hK : 100 < K) (hp : 0 ≤ p ∧ p ≤ 1000) (hm : m.length ≤ 1000) :
    ∃ (u : List Bool) (q : Int), spec_l20Marks.j0 K m xs p = some (u, q) ∧ p ≤ q ∧ q ≤ p + 20 ∧ u.length = m.length := by
  obtain ⟨K, rfl⟩ : ∃ j, K = j + 1 := ⟨K - 1, by omega⟩
  simp only [spec_l20Marks.j0]
  obtain ⟨v, hv, v0, v1⟩ := pick_some hx p 12 (by omega) (by omega) K (by omega)
  rw [hv]
  simp only [Option.bind_some]
  obtain ⟨u, q, hu, q0, q1, ul⟩ := marks_loop hx v (by omega) 12 m 0 (p + 1) K (by omega) (by omega) (by omega) hm (by omega)
  exact ⟨u, q, hu, by omega, by omega, ul⟩
theorem draw_marks {xs : List Int} (hx : IsBytes xs) (K : Nat) (hK : 100 < K) : ∃ (u : List Bool) (q : Int), spec_l20Marks.f K xs 0 = some (u, q) ∧ 0 ≤ q ∧ q ≤ 30 ∧ u.length ≤ 208 := by
  unfold spec_l20Marks.f
  obtain ⟨v, hv, v0, v1⟩ := pick_some hx 0 11 (by omega) (by omega) K (by omega)
  rw [hv]
  simp only [Option.bind_some]
  have hw : wrap64 (2 + v) = 2 + v := w64 (by omega) (by omega)
  have hnew : ∃ b, spec_MarksNew.f (2 + v) = some (List.replicate ((2 + v) * 16).toNat false, b) := by
    unfold spec_MarksNew.f
    rw [if_neg (by omega), if_neg (by omega), w64 (by omega) (by omega), if_pos (by omega), if_pos (by omega)]
    exact ⟨_, rfl⟩
  obtain ⟨b, hb⟩ := hnew
  rw [hw, hb]
  simp only [Option.bind_some]
  obtain ⟨c, hc, c0, c1⟩ := pick_some hx (0 + 1) 12 (by omega) (by omega) K (by omega)
  rw [hc]
  simp only [Option.bind_some]
  by_cases h : c = 0
  · rw [if_pos h]
    obtain ⟨e, he, e0, e1⟩ := pick_some hx (0 + 1 + 1) 5 (by omega) (by omega) K (by omega)
    rw [he]
    simp only [Option.bind_some]
    rw [if_pos e0, if_pos (by simp; omega)]
    have hr : 0 ≤ rd [0, 15, 16, 200, 208] e ∧ rd [0, 15, 16, 200, 208] e ≤ 208 := by
      have : e = 0 ∨ e = 1 ∨ e = 2 ∨ e = 3 ∨ e = 4 := by omega
      rcases this with rfl | rfl | rfl | rfl | rfl <;> simp [rd]
    rw [if_pos hr.1, if_pos (by omega)]
    obtain ⟨u, q, hu, q0, q1, ul⟩ := marks_j hx (List.replicate (rd [0, 15, 16, 200, 208] e).toNat false) (0 + 1 + 1 + 1) K hK (by omega) (by simp; omega)
    refine ⟨u, q, hu, by omega, by omega, ?_⟩
    rw [ul]
    simp
    omega
  · rw [if_neg h]
    obtain ⟨u, q, hu, q0, q1, ul⟩ := marks_j hx (List.replicate ((2 + v) * 16).toNat false) (0 + 1 + 1) K hK (by omega) (by simp; omega)
    refine ⟨u, q, hu, by omega, by omega, ?_⟩
    rw [ul]
    simp
    omega

theorem words_of (n : Nat) : impl_WordsOk.f (List.replicate n 0) = if (n : Int) % 16 = 0 then (if (n : Int) ≥ 32 then some (decide ((n : Int) ≤ 192)) else some false) else some false := by
  unfold impl_WordsOk.f
  rw [List.length_replicate]
theorem marks_ok (l : List Bool) (hl : l.length ≤ 1048576) : spec_l10Ok.f l = impl_marksOk.f l := by
  unfold impl_marksOk.f
  rw [if_pos (by omega), if_pos (by omega), Int.toNat_natCast, words_of l.length]
  unfold spec_l10Ok.f
  by_cases h : ((l.length : Int) % 16) = 0
  · rw [if_pos h, if_pos h, w64 (by omega) (by omega)]
    by_cases h2 : (l.length : Int) / 16 ≥ 2
    · rw [if_pos h2, if_pos (by omega)]
      simp only [Option.bind_some]
      congr 1
      exact decide_eq_decide.2 (by omega)
    · rw [if_neg h2, if_neg (by omega)]
      rfl
  · rw [if_neg h, if_neg h]
    rfl
theorem marks_some (l : List Bool) (hl : l.length ≤ 1048576) : ∃ b, impl_marksOk.f l = some b := by
  rw [← marks_ok l hl]
  unfold spec_l10Ok.f
  split
  · split <;> exact ⟨_, rfl⟩
  · exact ⟨_, rfl⟩

def okB (l : List Bool) : Bool := decide ((l.length : Int) % 16 = 0 ∧ 32 ≤ l.length ∧ l.length ≤ 192)
theorem marks_eq (l : List Bool) (hl : l.length ≤ 1048576) : impl_marksOk.f l = some (okB l) := by
  unfold impl_marksOk.f okB
  rw [if_pos (by omega), if_pos (by omega), Int.toNat_natCast, words_of l.length]
  by_cases h : ((l.length : Int) % 16) = 0
  · rw [if_pos h]
    by_cases h2 : (l.length : Int) ≥ 32
    · rw [if_pos h2]
      simp only [Option.bind_some]
      exact congrArg some (decide_eq_decide.2 (by omega))
    · rw [if_neg h2]
      exact congrArg some (decide_eq_false (by omega)).symm
  · rw [if_neg h]
    exact congrArg some (decide_eq_false (by omega)).symm

def cn : List Bool → Int
  | [] => 0
  | b :: l => (if b = true then 1 else 0) + cn l
theorem cn_bound (l : List Bool) : 0 ≤ cn l ∧ cn l ≤ l.length := by
  induction l with
  | nil => simp [cn]
  | cons b l ih =>
    simp only [cn, List.length_cons]
    split <;> omega
theorem impl_seg (s : List Bool) (hs : s.length ≤ 192) (d : Nat) : ∀ (k i : Nat) (c : Int), i ≤ s.length → s.length - i = d → d < k → 0 ≤ c ∧ c ≤ i →
    impl_MarkCount.l0 k c s (s.length : Int) (i : Int) = some (c + cn (s.drop i)) := by
  induction d with
  | zero =>
    intro k i c hi hd hk hc
    obtain ⟨k, rfl⟩ : ∃ m, k = m + 1 := ⟨k - 1, by omega⟩
    simp only [impl_MarkCount.l0]
    rw [if_neg (by omega), List.drop_of_length_le (by omega)]
    simp [cn]
  | succ d ih =>
    intro k i c hi hd hk hc
    obtain ⟨k, rfl⟩ : ∃ m, k = m + 1 := ⟨k - 1, by omega⟩
    simp only [impl_MarkCount.l0]
    rw [if_pos (by omega), if_pos (by omega), if_pos (by omega), rdOf_at false s i (by omega), wnext i (by omega), List.drop_eq_getElem_cons (by omega)]
    unfold impl_truth.f
    simp only [cn]
    by_cases hb : s[i] = true
    · rw [if_pos hb, if_pos hb]
      simp only [Option.bind_some]
      rw [w64 (by omega) (by omega), ih k (i + 1) (c + 1) (by omega) (by omega) (by omega) (by omega)]
      exact congrArg some (by omega)
    · rw [if_neg hb, if_neg hb]
      simp only [Option.bind_some]
      rw [w64 (by omega) (by omega), ih k (i + 1) (c + 0) (by omega) (by omega) (by omega) (by omega)]
      exact congrArg some (by omega)
def cntOf (l : List Bool) (r : Int) : Int := if okB l = true ∧ 0 ≤ r ∧ r * 16 + 16 ≤ (l.length : Int) then cn ((l.take (r.toNat * 16 + 16)).drop (r.toNat * 16)) else 0
theorem mark_count (l : List Bool) (r : Int) (hl : l.length ≤ 1048576) (hr : -9223372036854775808 ≤ r ∧ r ≤ 9223372036854775807) :
    ∃ n, (∀ K, 1048580 < K → impl_MarkCount.f K l r = some n) ∧ n = cntOf l r := by
  unfold impl_MarkCount.f cntOf
  rw [marks_eq l hl]
  simp only [Option.bind_some]
  have none_of : ∀ K, 1048580 < K → impl_MarkCount.j0 K l r true = some 0 := by
    intro K hK
    obtain ⟨K, rfl⟩ : ∃ m, K = m + 1 := ⟨K - 1, by omega⟩
    simp only [impl_MarkCount.j0, if_true]
  cases hok : okB l with
  | false =>
    refine ⟨0, fun K hK => ?_, by simp⟩
    rw [if_neg (by simp)]
    exact none_of K hK
  | true =>
    have hk := of_decide_eq_true hok
    by_cases h0 : r < 0
    · refine ⟨0, fun K hK => ?_, by rw [if_neg (by omega)]⟩
      rw [if_pos rfl, if_pos h0]
      exact none_of K hK
    by_cases h1 : r ≥ (l.length : Int) / 16
    · refine ⟨0, fun K hK => ?_, by rw [if_neg (by omega)]⟩
      rw [if_pos rfl, if_neg h0, w64 (by omega) (by omega), decide_eq_true h1]
      exact none_of K hK
    · obtain ⟨q, rfl⟩ : ∃ q : Nat, r = (q : Int) := ⟨r.toNat, by omega⟩
      have hq : q * 16 + 16 ≤ l.length := by omega
      have hlt : ((l.take (q * 16 + 16)).drop (q * 16)).length = 16 := by simp; omega
      have hi := impl_seg ((l.take (q * 16 + 16)).drop (q * 16)) (by omega) 16
      refine ⟨cn ((l.take (q * 16 + 16)).drop (q * 16)), fun K hK => ?_, ?_⟩
      · obtain ⟨K, rfl⟩ : ∃ m, K = m + 1 := ⟨K - 1, by omega⟩
        rw [if_pos rfl, if_neg h0, w64 (by omega) (by omega), decide_eq_false h1]
        simp only [impl_MarkCount.j0]
        rw [if_neg (by simp), w64 (x := (q : Int) * 16) (by omega) (by omega), w64 (x := (q : Int) + 1) (by omega) (by omega), w64 (by omega) (by omega), if_pos (by omega), if_pos (by omega), if_pos (by omega),
          show (((q : Int) + 1) * 16).toNat = q * 16 + 16 by omega, show ((q : Int) * 16).toNat = q * 16 by omega]
        have := hi K 0 0 (by omega) (by omega) (by omega) (by omega)
        simpa using this
      · rw [if_pos (by simp; omega), Int.toNat_natCast]

theorem impl_has (l : List Bool) (i : Nat) (hl : l.length ≤ 1048576) (hi : i < l.length) : impl_MarkHas.f l (i : Int) = some (okB l && l[i]) := by
  unfold impl_MarkHas.f
  rw [marks_eq l hl]
  simp only [Option.bind_some]
  cases okB l with
  | false => rfl
  | true =>
    rw [if_pos rfl, if_pos (by omega), if_pos (by omega), if_pos (by omega), rdOf_at false l i hi]
    simp

theorem cn_append (a b : List Bool) : cn (a ++ b) = cn a + cn b := by
  induction a with
  | nil => simp [cn]
  | cons x a ih =>
    simp only [List.cons_append, cn, ih]
    omega
theorem cn_take (l : List Bool) (i : Nat) (hi : i < l.length) : cn (l.take (i + 1)) = cn (l.take i) + (if l[i] = true then 1 else 0) := by
  rw [List.take_succ_eq_append_getElem hi, cn_append]
  simp [cn]
theorem impl_next (l : List Bool) (d : Nat) (hl : l.length ≤ 1048576) : ∀ (k i : Nat), i ≤ l.length → l.length - i = d → d < k →
    ∃ r, impl_MarkNext.l0 k l (l.length : Int) (i : Int) = some r ∧ ((∃ j : Nat, ∃ h : j < l.length, r = (j : Int) ∧ i ≤ j ∧ l[j] = true ∧ cn (l.take j) = cn (l.take i)) ∨ (r = -1 ∧ cn l = cn (l.take i))) := by
  have hm : mn (l.length : Int) (l.length : Int) = (l.length : Int) := by
    unfold mn
    split <;> rfl
  induction d with
  | zero =>
    intro k i hi hd hk
    obtain ⟨k, rfl⟩ : ∃ m, k = m + 1 := ⟨k - 1, by omega⟩
    simp only [impl_MarkNext.l0]
    rw [hm, if_neg (by omega)]
    exact ⟨-1, rfl, .inr ⟨rfl, by rw [List.take_of_length_le (by omega)]⟩⟩
  | succ d ih =>
    intro k i hi hd hk
    obtain ⟨k, rfl⟩ : ∃ m, k = m + 1 := ⟨k - 1, by omega⟩
    simp only [impl_MarkNext.l0]
    rw [hm, if_pos (by omega), if_pos (by omega), if_pos (by omega), rdOf_at false l i (by omega), wnext i (by omega)]
    by_cases hb : l[i] = true
    · rw [if_pos hb]
      exact ⟨_, rfl, .inl ⟨i, by omega, rfl, Nat.le_refl _, hb, rfl⟩⟩
    · rw [if_neg hb]
      obtain ⟨r, h1, h2⟩ := ih k (i + 1) (by omega) (by omega) (by omega)
      have ht : cn (l.take (i + 1)) = cn (l.take i) := by
        rw [cn_take l i (by omega), if_neg hb]
        omega
      rw [ht] at h2
      refine ⟨r, h1, ?_⟩
      rcases h2 with ⟨j, hj, e1, e2, e3, e4⟩ | h2
      · exact .inl ⟨j, hj, e1, by omega, e3, e4⟩
      · exact .inr h2
theorem impl_next_f (l : List Bool) (hl : l.length ≤ 1048576) (i : Nat) (hi : i ≤ l.length) (K : Nat) (hK : 1048576 < K) : ∃ r, impl_MarkNext.f K l (i : Int) (l.length : Int) = some r ∧
    ((okB l = true ∧ ∃ j : Nat, ∃ h : j < l.length, r = (j : Int) ∧ i ≤ j ∧ l[j] = true ∧ cn (l.take j) = cn (l.take i)) ∨ (r = -1 ∧ (okB l = true → cn l = cn (l.take i)))) := by
  unfold impl_MarkNext.f
  rw [marks_eq l hl]
  simp only [Option.bind_some]
  cases hok : okB l with
  | false => exact ⟨-1, rfl, .inr ⟨rfl, fun h => by simp at h⟩⟩
  | true =>
    have e : mx (i : Int) 0 = (i : Int) := by
      unfold mx
      split <;> omega
    rw [if_pos rfl, e]
    obtain ⟨r, h1, h2⟩ := impl_next l (l.length - i) hl K i hi rfl (by omega)
    refine ⟨r, h1, ?_⟩
    rcases h2 with h2 | h2
    · exact .inl ⟨rfl, h2⟩
    · exact .inr ⟨h2.1, fun _ => h2.2⟩

theorem mark_set (l : List Bool) (a : Int) (hl : l.length ≤ 1048576) : spec_MarkSet.f l a = impl_MarkSet.f l a ∧
    ((okB l = true ∧ 0 ≤ a ∧ a < (l.length : Int) ∧ impl_MarkSet.f l a = some (l.set a.toNat true, rdOf false l a)) ∨ ((okB l = false ∨ a < 0 ∨ (l.length : Int) ≤ a) ∧ impl_MarkSet.f l a = some ([], false))) := by
  constructor
  · unfold spec_MarkSet.f impl_MarkSet.f
    rw [marks_ok l hl]
  · unfold impl_MarkSet.f
    rw [marks_eq l hl]
    simp only [Option.bind_some, List.nil_append, List.length_nil]
    cases hok : okB l with
    | false => exact .inr ⟨.inl rfl, rfl⟩
    | true =>
      rw [if_pos rfl]
      by_cases h0 : a < 0
      · rw [if_pos h0]
        exact .inr ⟨.inr (.inl h0), rfl⟩
      by_cases h1 : a ≥ (l.length : Int)
      · rw [if_neg h0, if_pos h1]
        exact .inr ⟨.inr (.inr h1), rfl⟩
      rw [if_neg h0, if_neg h1, if_pos (by omega), if_pos (by omega), if_pos (by omega), if_pos (by omega)]
      exact .inl ⟨rfl, by omega, by omega, rfl⟩
theorem has_out (l : List Bool) (a : Int) (hl : l.length ≤ 1048576) (h : okB l = false ∨ a < 0 ∨ (l.length : Int) ≤ a) : impl_MarkHas.f l a = some false := by
  unfold impl_MarkHas.f
  rw [marks_eq l hl]
  simp only [Option.bind_some]
  cases hok : okB l with
  | false => rfl
  | true =>
    rw [if_pos rfl]
    by_cases h0 : a ≥ 0
    · rw [if_pos h0]
      rw [hok] at h
      rw [if_neg (by simp at h; omega)]
    · rw [if_neg h0]
theorem cn_set (l : List Bool) : ∀ (i : Nat) (h : i < l.length), cn (l.set i true) = cn l + (if l[i] = true then 0 else 1) := by
  induction l with
  | nil => intro i h; simp at h
  | cons b l ih =>
    intro i h
    cases i with
    | zero =>
      simp only [List.set_cons_zero, cn, List.getElem_cons_zero]
      by_cases hb : b = true
      · rw [if_pos hb, if_pos hb, if_pos trivial]
        omega
      · rw [if_neg hb, if_neg hb, if_pos trivial]
        omega
    | succ i =>
      simp only [List.length_cons] at h
      simp only [List.set_cons_succ, cn, List.getElem_cons_succ]
      rw [ih i (by omega)]
      omega
theorem cnt_set (m : List Bool) (i : Nat) (hi : i < m.length) (hok : okB m = true) : cntOf (m.set i true) ((i / 16 : Nat) : Int) = cntOf m ((i / 16 : Nat) : Int) + (if m[i] = true then 0 else 1) := by
  have hk := of_decide_eq_true hok
  have hok2 : okB (m.set i true) = true := by
    unfold okB
    rw [List.length_set]
    exact hok
  have hlo : i / 16 * 16 ≤ i := Nat.div_mul_le_self i 16
  have hhi : i < i / 16 * 16 + 16 := by omega
  unfold cntOf
  rw [List.length_set, if_pos ⟨hok2, by omega, by omega⟩, if_pos ⟨hok, by omega, by omega⟩, Int.toNat_natCast]
  generalize i / 16 * 16 = lo at *
  have e : ((m.set i true).take (lo + 16)).drop lo = ((m.take (lo + 16)).drop lo).set (i - lo) true := by
    apply List.ext_getElem?
    intro j
    simp only [List.getElem?_drop, List.getElem?_take, List.getElem?_set, List.length_drop, List.length_take]
    by_cases h1 : lo + j < lo + 16
    · rw [if_pos h1]
      by_cases h2 : i = lo + j
      · rw [if_pos h2, if_pos (by omega), if_pos (by omega), if_pos (by omega)]
      · rw [if_neg h2, if_neg (by omega), if_pos h1]
    · rw [if_neg h1, if_neg (by omega), if_neg h1]
  have hl2 : i - lo < ((m.take (lo + 16)).drop lo).length := by
    rw [List.length_drop, List.length_take]
    omega
  have hg : ((m.take (lo + 16)).drop lo)[i - lo] = m[i] := by
    simp only [List.getElem_drop, List.getElem_take]
    congr 1
    omega
  rw [e, cn_set _ (i - lo) hl2, hg]
theorem last_part (m : List Bool) (i : Nat) (hi : i < m.length) (hm : m.length ≤ 208) (hok : okB m = true) (d : Nat) : ∀ (k j : Nat), j ≤ m.length → m.length - j = d → 1050000 + d < k →
    laws_FnMarks.l0 k m (i : Int) (m.set i true) m[i] (j : Int) = some true := by
  have hok2 : okB (m.set i true) = true := by
    unfold okB
    rw [List.length_set]
    exact hok
  induction d with
  | zero =>
    intro k j hj hd hk
    obtain ⟨k, rfl⟩ : ∃ q, k = q + 1 := ⟨k - 1, by omega⟩
    simp only [laws_FnMarks.l0]
    have hr : impl_RegionOf.f (i : Int) = some ((i / 16 : Nat) : Int) := by
      unfold impl_RegionOf.f
      rw [if_neg (by omega), tdiv_nn (by omega), w64 (by omega) (by omega)]
      exact congrArg some (by omega)
    obtain ⟨c1, hc1, e1⟩ := mark_count (m.set i true) ((i / 16 : Nat) : Int) (by simp; omega) (by omega)
    obtain ⟨c2, hc2, e2⟩ := mark_count m ((i / 16 : Nat) : Int) (by omega) (by omega)
    have hs := cnt_set m i hi hok
    rw [← e1, ← e2] at hs
    have hb : 0 ≤ c2 ∧ c2 ≤ 300 := by
      rw [e2]
      unfold cntOf
      split
      · have := cn_bound ((m.take ((((i / 16 : Nat) : Int)).toNat * 16 + 16)).drop ((((i / 16 : Nat) : Int)).toNat * 16))
        rw [List.length_drop, List.length_take] at this
        omega
      · omega
    have hn : impl_MarkNext.f k (m.set i true) (i : Int) ((i + 1 : Nat) : Int) = some (i : Int) := by
      unfold impl_MarkNext.f
      rw [marks_eq _ (by simp; omega), hok2]
      simp only [Option.bind_some, if_true]
      have ex : mx (i : Int) 0 = (i : Int) := by
        unfold mx
        split <;> omega
      obtain ⟨k, rfl⟩ : ∃ q, k = q + 1 := ⟨k - 1, by omega⟩
      rw [ex]
      simp only [impl_MarkNext.l0]
      rw [if_pos (by unfold mn; simp only [List.length_set]; split <;> omega), if_pos (by omega), if_pos (by simp; omega), rdOf_at false _ i (by simpa using hi)]
      simp
    rw [if_neg (by simp; omega), hr]
    simp only [Option.bind_some]
    rw [hc1 k (by omega)]
    simp only [Option.bind_some]
    rw [hc2 k (by omega)]
    simp only [Option.bind_some]
    rw [wnext i (by omega), hn]
    simp only [Option.bind_some, if_true]
    rw [impl_has m i (by omega) hi, hok]
    simp only [Option.bind_some, Bool.true_and]
    rw [if_pos (by simp)]
    cases hbi : m[i] with
    | true =>
      rw [hbi, if_pos rfl] at hs
      have hw : wrap64 (c1 - c2) = 0 := by
        rw [w64 (by omega) (by omega)]
        omega
      rw [hw]
      rfl
    | false =>
      rw [hbi, if_neg (by simp)] at hs
      have hw : wrap64 (c1 - c2) = 1 := by
        rw [w64 (by omega) (by omega)]
        omega
      rw [hw]
      rfl
  | succ d ih =>
    intro k j hj hd hk
    obtain ⟨k, rfl⟩ : ∃ q, k = q + 1 := ⟨k - 1, by omega⟩
    simp only [laws_FnMarks.l0]
    rw [if_pos (by simp; omega), impl_has (m.set i true) j (by simp; omega) (by simp; omega), impl_has m j (by omega) (by omega), hok, hok2]
    simp only [Option.bind_some, Bool.true_and]
    rw [wnext j (by omega)]
    have hn := ih k (j + 1) (by omega) (by omega) (by omega)
    rw [List.getElem_set]
    by_cases e : i = j
    · subst e
      rw [if_pos rfl]
      by_cases hb : m[i] = true
      · rw [if_pos hb, if_neg (by simp)]
        exact hn
      · rw [if_neg hb, if_neg (by simp)]
        exact hn
    · rw [if_neg e]
      by_cases hb : m[j] = true
      · rw [if_pos hb, if_neg (by simp [hb])]
        exact hn
      · have hbf : m[j] = false := by simpa using hb
        rw [if_neg hb, if_neg (by rw [hbf]; simp; omega)]
        exact hn
theorem FnMarks (l : List Int) (hg : l.length ≤ maxLen ∧ ∀ x ∈ l, (Lit.int .u8 x).wf = true) : ∃ k, laws_FnMarks.f k l = some true := by
  obtain ⟨K, hK⟩ : ∃ K, 1051000 < K := ⟨1051001, by omega⟩
  refine ⟨K + 1, ?_⟩
  unfold laws_FnMarks.f
  by_cases h : (l.length : Int) > 1048576
  · rw [if_pos h]
  rw [if_neg h]
  obtain ⟨xs, hx, hb⟩ := open_bytes l hg.2
  obtain ⟨m, q, hm, q0, q1, ml⟩ := draw_marks hb (K + 1) (by omega)
  obtain ⟨v, hv, v0, v1⟩ := pick_some hb q 210 (by omega) (by omega) (K + 1) (by omega)
  simp only [spec_DrawMarkSet.f, hx, hm, hv, Option.bind_some]
  rw [w64 (by omega) (by omega)]
  generalize v - 5 = a
  obtain ⟨e, hs⟩ := mark_set m a (by omega)
  rw [e]
  rcases hs with ⟨hok, a0, a1, hs⟩ | ⟨hout, hs⟩
  · obtain ⟨i, rfl⟩ := Int.eq_ofNat_of_zero_le a0
    have hi : i < m.length := by omega
    rw [hs, rdOf_at false m i hi, Int.toNat_natCast]
    simp only [Option.bind_some, bne_self_eq_false, Bool.false_eq_true, if_false, laws_FnMarks.j0]
    rw [if_neg (by rw [List.length_set]; omega)]
    exact last_part m i hi ml hok m.length K 0 (by omega) (by omega) (by omega)
  · rw [hs]
    simp only [Option.bind_some, bne_self_eq_false, Bool.false_eq_true, if_false, laws_FnMarks.j0]
    rw [if_pos (by simp), has_out m a (by omega) hout]
    rfl

end Go.Proofs.Ytaihpphekkiemaa.Pure
