/- Rounds give each thread as many picks, with no longer gap than the other threads; a seed's picks are the threads' own and a shorter row is the longer one's beginning: the law answers true at every code. No condition. -/
import Derived.Test.YtpalgpgeicpaoaaQFnSchedTurnsx4
namespace Go.Proofs.Ytpalgpgeicpaoaa.Pure
open Go.RowKit Go.Proofs.Ytpalgpgeicpaoaa.QFnSchedTurns Go.Proofs.YtpalgpgeicpaoaaW.PrintWords Go.Proofs.YtpalgpgeicpaoaaW.PrintLast Go.Proofs.YtpalgpgeicpaoaaW.PrintMore
set_option linter.unusedVariables false
set_option linter.unusedSimpArgs false

theorem w64 {x : Int} (h0 : -9223372036854775808 ≤ x) (h1 : x ≤ 9223372036854775807) : wrap64 x = x := by
  unfold wrap64
  omega
theorem wnext (i : Nat) (h : i < 9223372036854775807) : wrap64 ((i : Int) + 1) = ((i + 1 : Nat) : Int) := by
  unfold wrap64
  omega
theorem rdOf_at {α : Type} (d : α) (l : List α) (i : Nat) (h : i < l.length) : rdOf d l (i : Int) = l[i] := by
  simp [rdOf, List.getD, h]
theorem rd_at (l : List Int) (i : Nat) (h : i < l.length) : rd l (i : Int) = l[i] := by
  simp [rd, List.getD, h]
theorem set_step {α : Type} (l m : List α) (i : Nat) (v : α) (hl : l.length = m.length) (hi : i < m.length) (hv : m[i]? = some v)
    (hp : ∀ j, j < i → l[j]? = m[j]?) : (l.set i v).length = m.length ∧ ∀ j, j < i + 1 → (l.set i v)[j]? = m[j]? := by
  refine ⟨by simp [hl], fun j hj => ?_⟩
  rw [List.getElem?_set]
  by_cases e : i = j
  · subst e
    rw [if_pos rfl, if_pos (by omega), hv]
  · rw [if_neg e]
    exact hp j (by omega)
theorem all_eq {α : Type} (l m : List α) (hl : l.length = m.length) (hp : ∀ j, j < m.length → l[j]? = m[j]?) : l = m := by
  apply List.ext_getElem?
  intro j
  by_cases hj : j < m.length
  · exact hp j hj
  · rw [List.getElem?_eq_none (by omega), List.getElem?_eq_none (by omega)]

theorem b64 {n : Int} (h : (Lit.int .i64 n).wf = true) : -9223372036854775808 ≤ n ∧ n ≤ 9223372036854775807 := by
  simp [Lit.wf, IntKind.min, IntKind.max, IntKind.signed, IntKind.bits] at h
  omega
theorem b8 {n : Int} (h : (Lit.int .u8 n).wf = true) : 0 ≤ n ∧ n ≤ 255 := by
  simp [Lit.wf, IntKind.min, IntKind.max, IntKind.signed, IntKind.bits] at h
  omega

theorem tdiv_nn {a : Int} (h : 0 ≤ a) (b : Int) : Int.tdiv a b = a / b := Int.tdiv_eq_ediv_of_nonneg h
theorem tmod_nn {a : Int} (h : 0 ≤ a) (b : Int) : Int.tmod a b = a % b := Int.tmod_eq_emod_of_nonneg h

theorem xor_nn {a b : Int} (ha : 0 ≤ a) (hb : 0 ≤ b) (ha1 : a < 4611686018427387904) (hb1 : b < 4611686018427387904) : 0 ≤ Go.bits .xor .i64 a b := by
  obtain ⟨m, rfl⟩ := Int.eq_ofNat_of_zero_le ha
  obtain ⟨n, rfl⟩ := Int.eq_ofNat_of_zero_le hb
  have hx : m ^^^ n < 2 ^ 62 := Nat.xor_lt_two_pow (by omega) (by omega)
  have h1 : (BitVec.ofInt 64 (m : Int)).toNat = m := by
    rw [BitVec.ofInt_natCast, BitVec.toNat_ofNat]
    exact Nat.mod_eq_of_lt (by omega)
  have h2 : (BitVec.ofInt 64 (n : Int)).toNat = n := by
    rw [BitVec.ofInt_natCast, BitVec.toNat_ofNat]
    exact Nat.mod_eq_of_lt (by omega)
  have h : Go.bits .xor .i64 (m : Int) (n : Int) = IntKind.i64.wrap ((BitVec.ofInt 64 (m : Int) ^^^ BitVec.ofInt 64 (n : Int)).toNat : Int) := rfl
  rw [h, BitVec.toNat_xor, h1, h2, i64_w, w64 (by omega) (by omega)]
  omega
def IsBytes (xs : List Int) : Prop := xs.length ≤ 2000 ∧ ∀ x ∈ xs, (Lit.int .u8 x).wf = true
theorem rd_byte {xs : List Int} (h : IsBytes xs) (i : Int) : 0 ≤ rd xs i ∧ rd xs i ≤ 255 := by
  unfold rd
  by_cases hi : i.toNat < xs.length
  · have e : xs.getD i.toNat 0 = xs[i.toNat] := by simp [List.getD, hi]
    rw [e]
    exact b8 (h.2 _ (List.getElem_mem hi))
  · have e : xs.getD i.toNat 0 = 0 := by simp [List.getD, hi]
    omega
theorem open_bytes (l : List Int) (hw : ∀ x ∈ l, (Lit.int .u8 x).wf = true) : ∃ xs, spec_l1Open.f l = some (xs, 0) ∧ IsBytes xs := by
  unfold spec_l1Open.f
  by_cases h : (l.length : Int) > 2000
  · rw [if_pos h, if_pos (by omega)]
    exact ⟨_, rfl, by simp; omega, fun x hx => hw x (List.mem_of_mem_take hx)⟩
  · rw [if_neg h]
    exact ⟨_, rfl, by omega, hw⟩
theorem pick_some {xs : List Int} (hx : IsBytes xs) (p n : Int) (hp : 0 ≤ p ∧ p ≤ 1000000) (hn : 1 ≤ n ∧ n ≤ 1000000) :
    ∃ v, spec_l1Rd_pick.f xs p n = some (v, p + 1) ∧ 0 ≤ v ∧ v < n := by
  have hl := hx.1
  unfold spec_l1Rd_pick.f
  rw [if_neg (by omega), w64 (by omega) (by omega)]
  by_cases h0 : xs.length = 0
  · rw [if_pos (by simpa using h0)]
    exact ⟨0, rfl, by omega, by omega⟩
  rw [if_neg (by simpa using h0), w64 (by omega) (by omega), show p + 1 - 1 = p by omega]
  by_cases h1 : p < (xs.length : Int)
  · rw [if_pos h1, if_pos (by omega), if_neg (by omega)]
    obtain ⟨b0, b1⟩ := rd_byte hx p
    rw [w64 (by omega) (by omega)]
    refine ⟨_, rfl, Int.tmod_nonneg _ b0, Int.tmod_lt_of_pos _ (by omega)⟩
  rw [if_neg h1, w64 (x := p * 7) (by omega) (by omega), w64 (x := p * 7 + 3) (by omega) (by omega)]
  have m0 : 0 ≤ Int.tmod p xs.length := Int.tmod_nonneg _ hp.1
  have m1 : Int.tmod p xs.length < xs.length := Int.tmod_lt_of_pos _ (by omega)
  have m2 : 0 ≤ Int.tmod (p * 7 + 3) xs.length := Int.tmod_nonneg _ (by omega)
  have m3 : Int.tmod (p * 7 + 3) xs.length < xs.length := Int.tmod_lt_of_pos _ (by omega)
  rw [if_pos m0, if_pos m1, if_pos m2, if_pos m3, if_neg (by omega)]
  obtain ⟨b0, b1⟩ := rd_byte hx (Int.tmod p xs.length)
  obtain ⟨c0, c1⟩ := rd_byte hx (Int.tmod (p * 7 + 3) xs.length)
  have d0 : 0 ≤ Int.tdiv p xs.length := Int.tdiv_nonneg hp.1 (by omega)
  have d1 : Int.tdiv p xs.length ≤ p := by
    rw [Int.tdiv_eq_ediv_of_nonneg hp.1]
    exact Int.ediv_le_self _ hp.1
  generalize rd xs (Int.tmod p xs.length) = b at *
  generalize rd xs (Int.tmod (p * 7 + 3) xs.length) = c at *
  generalize Int.tdiv p xs.length = q at *
  simp (disch := omega) only [w64]
  generalize he : b * 131 + c * 1117 + p * 29 + q * 53 = e
  have e0 : 0 ≤ e := by omega
  have e1 : e < 4611686018427387904 := by omega
  have f0 : 0 ≤ Int.tdiv e 64 := Int.tdiv_nonneg e0 (by omega)
  have f1 : Int.tdiv e 64 ≤ e := by
    rw [Int.tdiv_eq_ediv_of_nonneg e0]
    exact Int.ediv_le_self _ e0
  rw [w64 (by omega) (by omega)]
  exact ⟨_, rfl, Int.tmod_nonneg _ (xor_nn e0 f0 e1 (by omega)), Int.tmod_lt_of_pos _ (by omega)⟩

theorem neg_len (n : Nat) : ¬ ((1 : Int) + (n : Int) < 0) := by omega
theorem bne_no (b : Bool) : ¬ ((b != b) = true) := by simp
theorem ff : ¬ (false = true) := by simp
theorem ntt : ¬ ((!true) = true) := by simp
theorem sb {α β : Type} {o : Option α} {v : α} {f : α → Option β} {r : Option β} (h : o = some v) (k : f v = r) : o.bind f = r := by rw [h]; exact k
theorem st {α : Type} {c : Prop} [Decidable c] {a b r : α} (h : c) (k : a = r) : (if c then a else b) = r := by rw [if_pos h]; exact k
theorem sf {α : Type} {c : Prop} [Decidable c] {a b r : α} (h : ¬ c) (k : b = r) : (if c then a else b) = r := by rw [if_neg h]; exact k

theorem laws_flInts_go (l : List Int) (hl : l.length ≤ 1048576) (d : Nat) : ∀ (k i : Nat), i ≤ l.length → l.length - i = d → d < k → laws_flInts.l0 k l l (i : Int) = some true := by
  induction d with
  | zero =>
    intro k i hi hd hk
    obtain ⟨k, rfl⟩ : ∃ m, k = m + 1 := ⟨k - 1, by omega⟩
    simp only [laws_flInts.l0]
    rw [if_neg (by omega)]
  | succ d ih =>
    intro k i hi hd hk
    obtain ⟨k, rfl⟩ : ∃ m, k = m + 1 := ⟨k - 1, by omega⟩
    simp only [laws_flInts.l0]
    rw [if_pos (by omega), if_pos (by omega), if_pos (by omega), wnext i (by omega), if_pos trivial]
    exact ih k (i + 1) (by omega) (by omega) (by omega)
theorem laws_flInts_self (l : List Int) (hl : l.length ≤ 1048576) (k : Nat) (hk : 1048576 < k) : laws_flInts.f k l l = some true := by
  unfold laws_flInts.f
  rw [if_pos rfl]
  exact laws_flInts_go l hl l.length k 0 (by omega) (by omega) (by omega)

def stp (who : Int) (s : Int × Int) (x : Int) : Int × Int := if x = who then (mx s.1 0, 0) else (mx s.1 (s.2 + 1), s.2 + 1)
def Fine (s : Int × Int) (n : Int) : Prop := 0 ≤ s.2 ∧ s.2 ≤ s.1 ∧ s.1 ≤ n
theorem stp_fine {who : Int} {s : Int × Int} {n : Int} (h : Fine s n) (x : Int) : Fine (stp who s x) (n + 1) ∧ s.1 ≤ (stp who s x).1 ∧ (stp who s x).1 ≤ s.1 + 1 := by
  obtain ⟨h0, h1, h2⟩ := h
  unfold stp Fine mx
  split <;> refine ⟨⟨?_, ?_, ?_⟩, ?_, ?_⟩ <;> (try split) <;> (try dsimp only) <;> omega
theorem fold_fine {who : Int} (l : List Int) : ∀ {s : Int × Int} {n : Int}, Fine s n → Fine (l.foldl (stp who) s) (n + (l.length : Int)) ∧ s.1 ≤ (l.foldl (stp who) s).1 ∧ (l.foldl (stp who) s).1 ≤ s.1 + (l.length : Int) := by
  induction l with
  | nil =>
    intro s n h
    exact ⟨by simpa using h, by simp, by simp⟩
  | cons x l ih =>
    intro s n h
    obtain ⟨h1, h2, h3⟩ := stp_fine (who := who) h x
    obtain ⟨g1, g2, g3⟩ := ih h1
    rw [List.foldl_cons, List.length_cons]
    refine ⟨?_, by omega, by push_cast; omega⟩
    have e : n + ((l.length + 1 : Nat) : Int) = n + 1 + (l.length : Int) := by push_cast; omega
    rw [e]
    exact g1
theorem drop_at (l : List Int) (i : Nat) (h : i < l.length) : l.drop i = l[i] :: l.drop (i + 1) := List.drop_eq_getElem_cons h
theorem impl_gap (l : List Int) (who : Int) (hl : l.length ≤ 1048576) (d : Nat) : ∀ (k i : Nat) (s : Int × Int), Fine s (i : Int) → i ≤ l.length → l.length - i = d → d < k →
    impl_SchedGap.l0 k who s.1 s.2 l (l.length : Int) (i : Int) = some ((l.drop i).foldl (stp who) s).1 := by
  induction d with
  | zero =>
    intro k i s hs hi hd hk
    obtain ⟨k, rfl⟩ : ∃ m, k = m + 1 := ⟨k - 1, by omega⟩
    simp only [impl_SchedGap.l0]
    rw [if_neg (by omega), List.drop_of_length_le (by omega)]
    rfl
  | succ d ih =>
    intro k i s hs hi hd hk
    obtain ⟨k, rfl⟩ : ∃ m, k = m + 1 := ⟨k - 1, by omega⟩
    have hw := ih k (i + 1) (stp who s l[i]) (by have := (stp_fine (who := who) hs l[i]).1; simpa using this) (by omega) (by omega) (by omega)
    obtain ⟨h0, h1, h2⟩ := hs
    simp only [impl_SchedGap.l0]
    rw [if_pos (by omega), if_pos (by omega), if_pos (by omega), wnext i (by omega), rd_at l i (by omega), drop_at l i (by omega), List.foldl_cons, w64 (by omega) (by omega), ← hw]
    unfold stp
    by_cases e : l[i] = who
    · rw [if_pos e, if_pos e]
    · rw [if_neg e, if_neg e]
theorem fine0 : Fine (0, 0) ((0 : Nat) : Int) := by
  unfold Fine
  simp
theorem impl_gap_eq (l : List Int) (who : Int) (hl : l.length ≤ 1048576) (k : Nat) (hk : 1048576 < k) : impl_SchedGap.f k l who = some (l.foldl (stp who) (0, 0)).1 := by
  unfold impl_SchedGap.f
  exact impl_gap l who hl l.length k 0 (0, 0) fine0 (by omega) (by omega) (by omega)

def rowOf (M n : Nat) : List Int := (List.range n).map fun i : Nat => ((i % M : Nat) : Int)
theorem rowOf_succ (M n : Nat) : rowOf M (n + 1) = rowOf M n ++ [((n % M : Nat) : Int)] := by simp [rowOf, List.range_succ]
theorem rowOf_length (M n : Nat) : (rowOf M n).length = n := by simp [rowOf]
theorem tmod_nat (i M : Nat) : Int.tmod (i : Int) (M : Int) = ((i % M : Nat) : Int) := by
  rw [tmod_nn (by omega)]
  simp
theorem wM {M : Nat} (h : 2 ≤ M ∧ M ≤ 4) : wrap64 ((M : Int) - 1 + 1) = (M : Int) := by
  rw [w64 (by omega) (by omega)]
  omega
theorem spec_row (M n T : Nat) (hM : 2 ≤ M ∧ M ≤ 4) (hT : n * M = T) (hn : T ≤ 4000) (d : Nat) : ∀ (k i : Nat), i ≤ T → T - i = d → d < k →
    spec_SchedRound.l0 k ((M : Int) - 1) (n : Int) (rowOf M i) (i : Int) = some (rowOf M T) := by
  have e : wrap64 ((n : Int) * (M : Int)) = (T : Int) := by
    rw [← Int.natCast_mul, hT, w64 (by omega) (by omega)]
  induction d with
  | zero =>
    intro k i hi hd hk
    obtain ⟨k, rfl⟩ : ∃ m, k = m + 1 := ⟨k - 1, by omega⟩
    simp only [spec_SchedRound.l0]
    rw [wM hM, e, if_neg (by omega), show i = T by omega]
  | succ d ih =>
    intro k i hi hd hk
    obtain ⟨k, rfl⟩ : ∃ m, k = m + 1 := ⟨k - 1, by omega⟩
    have hL := rowOf_length M i
    simp only [spec_SchedRound.l0]
    rw [wM hM, e, if_pos (by omega), if_neg (by omega), if_pos (by omega), tmod_nat, ← rowOf_succ, wnext i (by omega)]
    exact ih k (i + 1) (by omega) (by omega) (by omega)
theorem impl_row1 (M n q : Nat) (hM : 2 ≤ M ∧ M ≤ 4) (hq : q * M ≤ 4000) (hq2 : q ≤ 4000) (d : Nat) : ∀ (k p : Nat), p ≤ M → M - p = d →
    impl_SchedRound.l1 (k + d + 1) ((M : Int) - 1) (rowOf M (q * M + p)) (n : Int) (q : Int) (M : Int) (p : Int) = impl_SchedRound.l0 k ((M : Int) - 1) (rowOf M ((q + 1) * M)) (n : Int) ((q + 1 : Nat) : Int) := by
  induction d with
  | zero =>
    intro k p hp hd
    simp only [Nat.add_zero, impl_SchedRound.l1]
    rw [if_neg (by omega), wnext q (by omega), show p = M by omega, Nat.succ_mul]
  | succ d ih =>
    intro k p hp hd
    have hL := rowOf_length M (q * M + p)
    have hm : (q * M + p) % M = p := by
      rw [Nat.mul_comm, Nat.mul_add_mod, Nat.mod_eq_of_lt (by omega)]
    rw [show k + (d + 1) + 1 = (k + d + 1) + 1 by omega]
    simp only [impl_SchedRound.l1]
    rw [if_pos (by omega), if_pos (by omega), wnext p (by omega)]
    have e : rowOf M (q * M + p) ++ [(p : Int)] = rowOf M (q * M + (p + 1)) := by
      rw [← Nat.add_assoc, rowOf_succ, hm]
    rw [e]
    exact ih k (p + 1) (by omega) (by omega)
theorem impl_row0 (M n T : Nat) (hM : 2 ≤ M ∧ M ≤ 4) (hT : n * M = T) (hn : T ≤ 4000) (hn2 : n ≤ 4000) (d : Nat) : ∀ (k q : Nat), q ≤ n → n - q = d →
    impl_SchedRound.l0 (k + 6 * d + 1) ((M : Int) - 1) (rowOf M (q * M)) (n : Int) (q : Int) = some (rowOf M T) := by
  induction d with
  | zero =>
    intro k q hq hd
    simp only [Nat.mul_zero, Nat.add_zero, impl_SchedRound.l0]
    rw [if_neg (by omega), show q = n by omega, hT]
  | succ d ih =>
    intro k q hq hd
    have h1 : q * M ≤ n * M := Nat.mul_le_mul_right M hq
    rw [show k + 6 * (d + 1) + 1 = (k + 6 * d + 6) + 1 by omega]
    simp only [impl_SchedRound.l0]
    rw [if_pos (by omega), wM hM, show k + 6 * d + 6 = (k + (4 - M) + 6 * d + 1) + M + 1 by omega]
    have := impl_row1 M n q hM (by omega) (by omega) M (k + (4 - M) + 6 * d + 1) 0 (by omega) (by omega)
    rw [Nat.add_zero] at this
    refine Eq.trans this ?_
    exact ih (k + (4 - M)) (q + 1) (by omega) (by omega)
theorem round_both (a b : Int) (ha : -9223372036854775808 ≤ a ∧ a ≤ 9223372036854775807) (hb : b ≤ 9223372036854775807) :
    ∃ r, (∀ K, 100000 < K → spec_SchedRound.f K a b = some r ∧ impl_SchedRound.f K a b = some r) ∧
      ((r = [] ∧ (¬ (1 ≤ a ∧ a ≤ 3) ∨ b < 0 ∨ 4000 < b * (a + 1))) ∨ ∃ M n : Nat, r = rowOf M (n * M) ∧ 2 ≤ M ∧ M ≤ 4 ∧ n * M ≤ 4000 ∧ n ≤ 4000 ∧ a = (M : Int) - 1 ∧ b = (n : Int)) := by
  by_cases h1 : 1 ≤ a ∧ a ≤ 3
  · have e1 : spec_l18Ok.f a = some true := by
      unfold spec_l18Ok.f
      rw [if_pos h1.1, decide_eq_true h1.2]
    have e2 : impl_threadsOk.f a = some true := by
      unfold impl_threadsOk.f
      rw [if_pos h1.1, decide_eq_true h1.2]
    by_cases h2 : b < 0
    · refine ⟨[], fun K hK => ?_, .inl ⟨rfl, .inr (.inl h2)⟩⟩
      unfold spec_SchedRound.f impl_SchedRound.f
      rw [e1, e2]
      simp only [Option.bind_some, if_true]
      rw [if_pos h2, if_pos h2]
      exact ⟨rfl, rfl⟩
    obtain ⟨M, rfl⟩ : ∃ M : Nat, a = (M : Int) - 1 := ⟨(a + 1).toNat, by omega⟩
    obtain ⟨n, rfl⟩ : ∃ n : Nat, b = (n : Int) := ⟨b.toNat, by omega⟩
    have hM : 2 ≤ M ∧ M ≤ 4 := by omega
    have ew := wM hM
    have e3 : wrap64 ((4000 : Int) / (M : Int)) = ((4000 / M : Nat) : Int) := by
      have hd : (4000 / M : Nat) ≤ 4000 := Nat.div_le_self _ _
      have e : (4000 : Int) / (M : Int) = ((4000 / M : Nat) : Int) := by simp
      rw [e]
      generalize 4000 / M = D at hd ⊢
      exact w64 (by omega) (by omega)
    have hdiv : n ≤ 4000 / M ↔ n * M ≤ 4000 := Nat.le_div_iff_mul_le (by omega)
    by_cases h3 : n ≤ 4000 / M
    · refine ⟨rowOf M (n * M), fun K hK => ?_, .inr ⟨M, n, rfl, hM.1, hM.2, hdiv.1 h3, Nat.le_trans h3 (Nat.div_le_self _ _), rfl, rfl⟩⟩
      have hn2 : n ≤ 4000 := Nat.le_trans h3 (Nat.div_le_self _ _)
      obtain ⟨k, rfl⟩ : ∃ k, K = k + 6 * n + 1 := ⟨K - 6 * n - 1, by omega⟩
      unfold spec_SchedRound.f impl_SchedRound.f
      rw [e1, e2]
      simp only [Option.bind_some, if_true]
      rw [if_neg h2, if_neg h2, ew, if_neg (by omega), if_neg (by omega), e3, if_neg (by omega), if_neg (by omega)]
      refine ⟨spec_row M n (n * M) hM rfl (hdiv.1 h3) (n * M) (k + 6 * n + 1) 0 (by omega) (by omega) (by have := hdiv.1 h3; omega), ?_⟩
      have := impl_row0 M n (n * M) hM rfl (hdiv.1 h3) hn2 n k 0 (by omega) (by omega)
      rw [Nat.zero_mul] at this
      exact this
    · refine ⟨[], fun K hK => ?_, .inl ⟨rfl, .inr (.inr ?_)⟩⟩
      · unfold spec_SchedRound.f impl_SchedRound.f
        rw [e1, e2]
        simp only [Option.bind_some, if_true]
        rw [if_neg h2, if_neg h2, ew, e3, if_neg (by omega), if_pos (by omega), if_neg (by omega), if_pos (by omega)]
        exact ⟨rfl, rfl⟩
      · have := fun h => h3 (hdiv.2 h)
        have e : (n : Int) * ((M : Int) - 1 + 1) = ((n * M : Nat) : Int) := by
          rw [show (M : Int) - 1 + 1 = (M : Int) by omega]
          simp
        rw [e]
        omega
  · refine ⟨[], fun K hK => ?_, .inl ⟨rfl, .inl h1⟩⟩
    have e1 : spec_l18Ok.f a = some false := by
      unfold spec_l18Ok.f
      by_cases g : a ≥ 1
      · rw [if_pos g, decide_eq_false (by omega)]
      · rw [if_neg g]
    have e2 : impl_threadsOk.f a = some false := by
      unfold impl_threadsOk.f
      by_cases g : a ≥ 1
      · rw [if_pos g, decide_eq_false (by omega)]
      · rw [if_neg g]
    unfold spec_SchedRound.f impl_SchedRound.f
    rw [e1, e2]
    exact ⟨rfl, rfl⟩

theorem seed_same (k : Nat) : ∀ (a n : Int) (acc : List Int) (s i : Int), impl_SchedSeed.l0 k a s acc n i = spec_SchedSeed.l0 k a n acc s i := by
  induction k with
  | zero => intro a n acc s i; rfl
  | succ k ih =>
    intro a n acc s i
    simp only [impl_SchedSeed.l0, spec_SchedSeed.l0, ih, Int.mul_comm 1103515245 s]
theorem seed_in (M : Nat) (hM : 2 ≤ M ∧ M ≤ 4) (y : Int) (h0 : 0 ≤ y) : 0 ≤ Int.tmod (wrap64 (Int.tdiv (Int.tmod y 2147483648) 65536)) (M : Int) ∧ Int.tmod (wrap64 (Int.tdiv (Int.tmod y 2147483648) 65536)) (M : Int) < (M : Int) := by
  have m0 : 0 ≤ Int.tmod y 2147483648 := Int.tmod_nonneg _ h0
  have m1 : Int.tmod y 2147483648 < 2147483648 := Int.tmod_lt_of_pos _ (by omega)
  have d0 : 0 ≤ Int.tdiv (Int.tmod y 2147483648) 65536 := Int.tdiv_nonneg m0 (by omega)
  have d1 : Int.tdiv (Int.tmod y 2147483648) 65536 ≤ Int.tmod y 2147483648 := by
    rw [Int.tdiv_eq_ediv_of_nonneg m0]
    exact Int.ediv_le_self _ m0
  rw [w64 (by omega) (by omega)]
  exact ⟨Int.tmod_nonneg _ d0, Int.tmod_lt_of_pos _ (by omega)⟩
def slot (a p : Int) : Int := if p < 0 then a + 2 else if p > a + 1 then a + 2 else p
def hit (a : Int) (acc : List Int) (p : Int) : List Int := acc.set (slot a p).toNat (wrap64 (rd acc (slot a p) + 1))
theorem count_fold (a : Int) (ha : 1 ≤ a ∧ a ≤ 3) (l : List Int) (hl : l.length ≤ 1048576) (d : Nat) : ∀ (k i : Nat) (acc : List Int), (acc.length : Int) = a + 3 → i ≤ l.length → l.length - i = d → d < k →
    impl_SchedCount.l0 k a acc l (l.length : Int) (i : Int) = some ((l.drop i).foldl (hit a) acc) := by
  induction d with
  | zero =>
    intro k i acc hacc hi hd hk
    obtain ⟨k, rfl⟩ : ∃ m, k = m + 1 := ⟨k - 1, by omega⟩
    simp only [impl_SchedCount.l0]
    rw [if_neg (by omega), List.drop_of_length_le (by omega)]
    rfl
  | succ d ih =>
    intro k i acc hacc hi hd hk
    obtain ⟨k, rfl⟩ : ∃ m, k = m + 1 := ⟨k - 1, by omega⟩
    have hn := ih k (i + 1) (hit a acc l[i]) (by simpa [hit] using hacc) (by omega) (by omega) (by omega)
    simp only [impl_SchedCount.l0]
    rw [if_pos (by omega), if_pos (by omega), if_pos (by omega), rd_at l i (by omega), wnext i (by omega), w64 (x := a + 2) (by omega) (by omega), w64 (x := a + 1) (by omega) (by omega), List.drop_eq_getElem_cons (by omega), List.foldl_cons, ← hn]
    unfold hit slot
    by_cases h0 : l[i] < 0
    · rw [if_pos h0, if_pos (by omega), if_pos (by omega), if_pos h0]
    by_cases h1 : l[i] > a + 1
    · rw [if_neg h0, if_pos h1, if_pos (by omega), if_pos (by omega), if_neg h0, if_pos h1]
    · rw [if_neg h0, if_neg h1, if_pos (by omega), if_pos (by omega), if_neg h0, if_neg h1]

theorem rnd_round (M q : Nat) (hM : 2 ≤ M ∧ M ≤ 4) : rowOf M ((q + 1) * M) = rowOf M (q * M) ++ (List.range M).map (fun i : Nat => (i : Int)) := by
  have step : ∀ p, p ≤ M → rowOf M (q * M + p) = rowOf M (q * M) ++ (List.range p).map (fun i : Nat => (i : Int)) := by
    intro p
    induction p with
    | zero => intro _; simp
    | succ p ih =>
      intro hp
      have hm : (q * M + p) % M = p := by rw [Nat.mul_comm, Nat.mul_add_mod, Nat.mod_eq_of_lt (by omega)]
      rw [← Nat.add_assoc, rowOf_succ, hm, ih (by omega), List.range_succ, List.map_append, List.append_assoc]
      rfl
  rw [Nat.succ_mul]
  exact step M (by omega)
def Inv (C u : Int) (s : Int × Int) : Prop := 0 ≤ s.2 ∧ s.2 ≤ u ∧ 0 ≤ s.1 ∧ s.1 ≤ C
theorem inv_ne {C u who x : Int} {s : Int × Int} (h : Inv C u s) (hx : x ≠ who) (hu : u + 1 ≤ C) : Inv C (u + 1) (stp who s x) := by
  obtain ⟨h0, h1, h2, h3⟩ := h
  unfold stp Inv mx
  rw [if_neg hx]
  dsimp only
  split <;> omega
theorem inv_eq {C u who : Int} {s : Int × Int} (h : Inv C u s) : Inv C 0 (stp who s who) := by
  obtain ⟨h0, h1, h2, h3⟩ := h
  unfold stp Inv mx
  rw [if_pos rfl]
  dsimp only
  split <;> omega
theorem gap_inv (M q j : Nat) (hM : 2 ≤ M ∧ M ≤ 4) (hj : j < M) : Inv ((M : Int) - 1) ((M : Int) - 1 - (j : Int)) ((rowOf M (q * M)).foldl (stp (j : Int)) (0, 0)) := by
  induction q with
  | zero =>
    rw [Nat.zero_mul]
    exact ⟨by simp [rowOf], by simp [rowOf]; omega, by simp [rowOf], by simp [rowOf]; omega⟩
  | succ q ih =>
    rw [rnd_round M q hM, List.foldl_append]
    generalize (rowOf M (q * M)).foldl (stp (j : Int)) (0, 0) = s at ih
    have part : ∀ p, p ≤ j → Inv ((M : Int) - 1) ((M : Int) - 1 - (j : Int) + (p : Int)) (((List.range p).map (fun i : Nat => (i : Int))).foldl (stp (j : Int)) s) := by
      intro p
      induction p with
      | zero => intro _; simpa using ih
      | succ p ihp =>
        intro hp
        rw [List.range_succ, List.map_append, List.foldl_append]
        have := inv_ne (x := (p : Int)) (who := (j : Int)) (ihp (by omega)) (by omega) (by omega)
        rw [show (M : Int) - 1 - (j : Int) + ((p + 1 : Nat) : Int) = (M : Int) - 1 - (j : Int) + (p : Int) + 1 by omega]
        exact this
    have part2 : ∀ p, j + 1 + p ≤ M → Inv ((M : Int) - 1) (p : Int) (((List.range (j + 1 + p)).map (fun i : Nat => (i : Int))).foldl (stp (j : Int)) s) := by
      intro p
      induction p with
      | zero =>
        intro _
        rw [Nat.add_zero, List.range_succ, List.map_append, List.foldl_append]
        exact inv_eq (part j (Nat.le_refl _))
      | succ p ihp =>
        intro hp
        rw [show j + 1 + (p + 1) = (j + 1 + p) + 1 by omega, List.range_succ, List.map_append, List.foldl_append]
        have := inv_ne (x := ((j + 1 + p : Nat) : Int)) (who := (j : Int)) (ihp (by omega)) (by omega) (by omega)
        rw [show ((p + 1 : Nat) : Int) = (p : Int) + 1 by omega]
        exact this
    have := part2 (M - 1 - j) (by omega)
    rw [show j + 1 + (M - 1 - j) = M by omega, show ((M - 1 - j : Nat) : Int) = (M : Int) - 1 - (j : Int) by omega] at this
    exact this
theorem hit_self (M : Nat) (j : Nat) (acc : List Int) (hj : j < M) (hM : 2 ≤ M ∧ M ≤ 4) (v : Int) (ha : acc[j]? = some v) (hv : 0 ≤ v ∧ v ≤ 4000) : hit ((M : Int) - 1) acc (j : Int) = acc.set j (v + 1) := by
  have hs : slot ((M : Int) - 1) (j : Int) = (j : Int) := by
    unfold slot
    rw [if_neg (by omega), if_neg (by omega)]
  unfold hit
  rw [hs, Int.toNat_natCast]
  have : rd acc (j : Int) = v := by
    simp [rd, List.getD, ha]
  rw [this, w64 (by omega) (by omega)]
theorem count_inv (M : Nat) (hM : 2 ≤ M ∧ M ≤ 4) : ∀ q, q ≤ 4000 → ∀ acc : List Int, (∀ j, j < M → acc[j]? = some 0) → ∀ j, j < M → ((rowOf M (q * M)).foldl (hit ((M : Int) - 1)) acc)[j]? = some (q : Int) := by
  intro q
  induction q with
  | zero =>
    intro _ acc ha j hj
    rw [Nat.zero_mul]
    simpa [rowOf] using ha j hj
  | succ q ih =>
    intro hq acc ha
    rw [rnd_round M q hM, List.foldl_append]
    have h0 := ih (by omega) acc ha
    generalize (rowOf M (q * M)).foldl (hit ((M : Int) - 1)) acc = s at h0
    have part : ∀ p, p ≤ M → ∀ j, j < M → (((List.range p).map (fun i : Nat => (i : Int))).foldl (hit ((M : Int) - 1)) s)[j]? = some (if j < p then ((q + 1 : Nat) : Int) else (q : Int)) := by
      intro p
      induction p with
      | zero =>
        intro _ j hj
        rw [if_neg (by omega)]
        simpa using h0 j hj
      | succ p ihp =>
        intro hp j hj
        rw [List.range_succ, List.map_append, List.foldl_append]
        have hp' := ihp (by omega)
        have e := hp' p (by omega)
        rw [if_neg (by omega)] at e
        show (hit ((M : Int) - 1) _ ((p : Nat) : Int))[j]? = _
        rw [hit_self M p _ (by omega) hM _ e (by omega), List.getElem?_set]
        by_cases g : p = j
        · subst g
          have hlt := (List.getElem?_eq_some_iff.1 e).1
          rw [if_pos rfl, if_pos hlt, if_pos (by omega)]
          simp
        · rw [if_neg g, hp' j hj]
          by_cases g2 : j < p
          · rw [if_pos g2, if_pos (by omega)]
          · rw [if_neg g2, if_neg (by omega)]
    intro j hj
    have := part M (Nat.le_refl _) j hj
    rwa [if_pos hj] at this
theorem hit_length (a : Int) (l : List Int) : ∀ acc : List Int, (l.foldl (hit a) acc).length = acc.length := by
  induction l with
  | nil => intro acc; rfl
  | cons x l ih =>
    intro acc
    rw [List.foldl_cons, ih]
    simp [hit]
theorem count_eq (M : Nat) (hM : 2 ≤ M ∧ M ≤ 4) (l : List Int) (hl : l.length ≤ 1048576) (K : Nat) (hK : 1048576 < K) : impl_SchedCount.f K ((M : Int) - 1) l = some (l.foldl (hit ((M : Int) - 1)) (List.replicate (M + 2) 0)) := by
  have e2 : impl_threadsOk.f ((M : Int) - 1) = some true := by
    unfold impl_threadsOk.f
    rw [if_pos (by omega), decide_eq_true (by omega)]
  unfold impl_SchedCount.f
  rw [e2]
  simp only [Option.bind_some, if_true]
  have ew : wrap64 ((M : Int) - 1 + 3) = ((M + 2 : Nat) : Int) := by
    rw [w64 (by omega) (by omega)]
    omega
  rw [ew, if_pos (by omega), if_pos (by omega), Int.toNat_natCast]
  exact count_fold ((M : Int) - 1) (by omega) l hl l.length K 0 _ (by simp; omega) (by omega) (by omega) (by omega)
def nx (s : Int) : Int := Int.tmod (s * 1103515245 + 12345) 2147483648
def seq (M : Nat) : Nat → Int → List Int
  | 0, _ => []
  | d + 1, s => Int.tmod (wrap64 (Int.tdiv (nx s) 65536)) (M : Int) :: seq M d (nx s)
theorem seq_length (M : Nat) : ∀ d s, (seq M d s).length = d
  | 0, _ => rfl
  | d + 1, s => by simp [seq, seq_length M d]
theorem seq_take (M : Nat) : ∀ m n s, m ≤ n → (seq M n s).take m = seq M m s
  | 0, _, _, _ => by simp [seq]
  | m + 1, 0, _, h => by omega
  | m + 1, n + 1, s, h => by simp [seq, seq_take M m n (nx s) (by omega)]
theorem nx_in (s : Int) (hs : 0 ≤ s ∧ s < 2147483648) : 0 ≤ nx s ∧ nx s < 2147483648 := ⟨Int.tmod_nonneg _ (by omega), Int.tmod_lt_of_pos _ (by omega)⟩
theorem seq_in (M : Nat) (hM : 2 ≤ M ∧ M ≤ 4) : ∀ d s, 0 ≤ s ∧ s < 2147483648 → ∀ x ∈ seq M d s, 0 ≤ x ∧ x < (M : Int)
  | 0, _, _, x, hx => by simp [seq] at hx
  | d + 1, s, hs, x, hx => by
    rcases List.mem_cons.1 hx with rfl | hx
    · exact seed_in M hM (s * 1103515245 + 12345) (by omega)
    · exact seq_in M hM d (nx s) (nx_in s hs) x hx
theorem seed_seq (M n : Nat) (hM : 2 ≤ M ∧ M ≤ 4) (hn : n ≤ 4000) (d : Nat) : ∀ (k i : Nat) (acc : List Int) (s : Int), i ≤ n → n - i = d → acc.length = i → 0 ≤ s ∧ s < 2147483648 → d < k →
    spec_SchedSeed.l0 k ((M : Int) - 1) (n : Int) acc s (i : Int) = some (acc ++ seq M d s) := by
  induction d with
  | zero =>
    intro k i acc s hi hd hl hs hk
    obtain ⟨k, rfl⟩ : ∃ m, k = m + 1 := ⟨k - 1, by omega⟩
    simp only [spec_SchedSeed.l0]
    rw [if_neg (by omega)]
    simp [seq]
  | succ d ih =>
    intro k i acc s hi hd hl hs hk
    obtain ⟨k, rfl⟩ : ∃ m, k = m + 1 := ⟨k - 1, by omega⟩
    have b0 : wrap64 (s * 1103515245) = s * 1103515245 := w64 (by omega) (by omega)
    have b1 : wrap64 (s * 1103515245 + 12345) = s * 1103515245 + 12345 := w64 (by omega) (by omega)
    simp only [spec_SchedSeed.l0]
    rw [wM hM, b0, b1, if_pos (by omega), if_neg (by omega), if_pos (by omega), wnext i (by omega)]
    have := ih k (i + 1) (acc ++ [Int.tmod (wrap64 (Int.tdiv (nx s) 65536)) (M : Int)]) (nx s) (by omega) (by omega) (by simp [hl]) (nx_in s hs) (by omega)
    unfold seq
    rw [List.append_assoc] at this
    exact this
theorem seed_ok (M n : Nat) (hM : 2 ≤ M ∧ M ≤ 4) (hn : n ≤ 4000) (b : Int) (hb : 0 ≤ b ∧ b < 2147483648) (K : Nat) (hK : 100000 < K) :
    spec_SchedSeed.f K ((M : Int) - 1) b (n : Int) = some (seq M n b) ∧ impl_SchedSeed.f K ((M : Int) - 1) b (n : Int) = some (seq M n b) := by
  have e1 : spec_l18Ok.f ((M : Int) - 1) = some true := by
    unfold spec_l18Ok.f
    rw [if_pos (by omega), decide_eq_true (by omega)]
  have e2 : impl_threadsOk.f ((M : Int) - 1) = some true := by
    unfold impl_threadsOk.f
    rw [if_pos (by omega), decide_eq_true (by omega)]
  have hr := seed_seq M n hM hn n K 0 [] b (by omega) (by omega) rfl hb (by omega)
  rw [List.nil_append] at hr
  unfold spec_SchedSeed.f impl_SchedSeed.f
  rw [e1, e2]
  simp only [Option.bind_some, if_true]
  rw [if_neg (by omega), if_neg (by omega), if_neg (by omega), if_neg (by omega), if_neg (by omega), if_neg (by omega), if_neg (by omega), if_neg (by omega), seed_same]
  exact ⟨hr, hr⟩
theorem seed_cases (a b c : Int) : (∀ K, 100000 < K → spec_SchedSeed.f K a b c = some [] ∧ impl_SchedSeed.f K a b c = some []) ∨ ∃ M n : Nat, (2 ≤ M ∧ M ≤ 4) ∧ n ≤ 4000 ∧ a = (M : Int) - 1 ∧ c = (n : Int) ∧ 0 ≤ b ∧ b < 2147483648 := by
  by_cases h1 : 1 ≤ a ∧ a ≤ 3
  · by_cases hg : (0 ≤ b ∧ b < 2147483648) ∧ 0 ≤ c ∧ c ≤ 4000
    · exact .inr ⟨(a + 1).toNat, c.toNat, by omega, by omega, by omega, by omega, hg.1⟩
    refine .inl fun K hK => ?_
    have e1 : spec_l18Ok.f a = some true := by
      unfold spec_l18Ok.f
      rw [if_pos h1.1, decide_eq_true h1.2]
    have e2 : impl_threadsOk.f a = some true := by
      unfold impl_threadsOk.f
      rw [if_pos h1.1, decide_eq_true h1.2]
    unfold spec_SchedSeed.f impl_SchedSeed.f
    rw [e1, e2]
    simp only [Option.bind_some, if_true]
    by_cases g1 : b < 0
    · rw [if_pos g1, if_pos g1]
      exact ⟨rfl, rfl⟩
    by_cases g2 : b ≥ 2147483648
    · rw [if_neg g1, if_pos g2, if_neg g1, if_pos (by omega)]
      exact ⟨rfl, rfl⟩
    by_cases g3 : c < 0
    · rw [if_neg g1, if_neg g2, if_pos g3, if_neg g1, if_neg (by omega), if_pos g3]
      exact ⟨rfl, rfl⟩
    · rw [if_neg g1, if_neg g2, if_neg g3, if_pos (by omega : c > 4000), if_neg g1, if_neg (by omega), if_neg g3, if_pos (by omega : c > 4000)]
      exact ⟨rfl, rfl⟩
  · refine .inl fun K hK => ?_
    have e1 : spec_l18Ok.f a = some false := by
      unfold spec_l18Ok.f
      by_cases g : a ≥ 1
      · rw [if_pos g, decide_eq_false (by omega)]
      · rw [if_neg g]
    have e2 : impl_threadsOk.f a = some false := by
      unfold impl_threadsOk.f
      by_cases g : a ≥ 1
      · rw [if_pos g, decide_eq_false (by omega)]
      · rw [if_neg g]
    unfold spec_SchedSeed.f impl_SchedSeed.f
    rw [e1, e2]
    exact ⟨rfl, rfl⟩
theorem wrap_in (x : Int) : -9223372036854775808 ≤ wrap64 x ∧ wrap64 x ≤ 9223372036854775807 := by
  unfold wrap64
  omega
theorem draw_round {xs : List Int} (hx : IsBytes xs) (l : List Int) (hl : spec_l1Open.f l = some (xs, 0)) : ∃ a n, spec_DrawSchedRound.f l = some (a, n) ∧ (-9223372036854775808 ≤ a ∧ a ≤ 9223372036854775807) ∧ n ≤ 9223372036854775807 := by
  obtain ⟨v, hv, v0, v1⟩ := pick_some hx 0 3 (by omega) (by omega)
  obtain ⟨u, hu, u0, u1⟩ := pick_some hx (0 + 1) 10 (by omega) (by omega)
  obtain ⟨x, hx6, x0, x1⟩ := pick_some hx (0 + 1 + 1) 6 (by omega) (by omega)
  obtain ⟨y, hy, y0, y1⟩ := pick_some hx (0 + 1 + 1 + 1) 9 (by omega) (by omega)
  obtain ⟨z, hz, z0, z1⟩ := pick_some hx (0 + 1 + 1) 8 (by omega) (by omega)
  unfold spec_DrawSchedRound.f
  by_cases h : u = 0
  · exact ⟨wrap64 (x - 1), y, sb hl (sb hv (sb hu (st h (sb hx6 (sb hy rfl))))), wrap_in _, by omega⟩
  · refine ⟨wrap64 (1 + v), rd _ z, sb hl (sb hv (sb hu (sf h (sf ?_ (sb rfl (sb hz (st z0 (st ?_ rfl)))))))), wrap_in _, ?_⟩
    · rw [w64 (x := 1 + v) (by omega) (by omega), w64 (by omega) (by omega)]
      omega
    · simp
      omega
    · obtain ⟨n, rfl⟩ := Int.eq_ofNat_of_zero_le z0
      have hw := wrap_in
      have : n < 8 := by omega
      match n, this with
      | 0, _ => simp [rd]
      | 1, _ => simp [rd]
      | 2, _ => simp [rd]
      | 3, _ => simp [rd]
      | 4, _ => simp [rd]
      | 5, _ => simp [rd]; exact (hw _).2
      | 6, _ => simp [rd]; exact (hw _).2
      | 7, _ => simp [rd]
theorem draw_seed {xs : List Int} (hx : IsBytes xs) (l : List Int) (hl : spec_l1Open.f l = some (xs, 0)) : ∃ a b c, spec_DrawSchedSeed.f l = some (a, b, c) := by
  obtain ⟨v, hv, v0, v1⟩ := pick_some hx 0 3 (by omega) (by omega)
  obtain ⟨u, hu, u0, u1⟩ := pick_some hx (0 + 1) 256 (by omega) (by omega)
  obtain ⟨x, hx6, x0, x1⟩ := pick_some hx (0 + 1 + 1) 65536 (by omega) (by omega)
  obtain ⟨y, hy, y0, y1⟩ := pick_some hx (0 + 1 + 1 + 1) 60 (by omega) (by omega)
  obtain ⟨z, hz, z0, z1⟩ := pick_some hx (0 + 1 + 1 + 1 + 1) 16 (by omega) (by omega)
  obtain ⟨p, hp, p0, p1⟩ := pick_some hx (0 + 1 + 1 + 1 + 1 + 1) 2 (by omega) (by omega)
  obtain ⟨q, hq, q0, q1⟩ := pick_some hx (0 + 1 + 1 + 1 + 1 + 1) 3 (by omega) (by omega)
  unfold spec_DrawSchedSeed.f
  by_cases h : z = 0
  · exact ⟨_, _, _, sb hl (sb hv (sb hu (sb hx6 (sb hy (sb hz (st h (sb rfl (sb hp (st p0 (st (by simp; omega) rfl))))))))))⟩
  by_cases h2 : z = 1
  · exact ⟨_, _, _, sb hl (sb hv (sb hu (sb hx6 (sb hy (sb hz (sf h (st h2 (sb rfl (sb hq (st q0 (st (by simp; omega) rfl)))))))))))⟩
  by_cases h3 : z = 2
  · exact ⟨_, _, _, sb hl (sb hv (sb hu (sb hx6 (sb hy (sb hz (sf h (sf h2 (st h3 (sb rfl (sb hq (st q0 (st (by simp; omega) rfl))))))))))))⟩
  · exact ⟨_, _, _, sb hl (sb hv (sb hu (sb hx6 (sb hy (sb hz (sf h (sf h2 (sf h3 rfl))))))))⟩
theorem l1_go (M n : Nat) (hM : 2 ≤ M ∧ M ≤ 4) (hn : n ≤ 4000) (b : Int) (hb : 0 ≤ b ∧ b < 2147483648) (d : Nat) : ∀ (k i : Nat), i ≤ n → n - i = d → d + 1048578 < k →
    laws_FnSchedTurns.l1 k ((M : Int) - 1) b (n : Int) (seq M n b) (i : Int) = some true := by
  have hL := seq_length M n b
  induction d with
  | zero =>
    intro k i hi hd hk
    obtain ⟨k, rfl⟩ : ∃ m, k = m + 1 := ⟨k - 1, by omega⟩
    simp only [laws_FnSchedTurns.l1]
    rw [if_neg (by omega)]
    by_cases h2 : ((seq M n b).length : Int) < 2
    · exact st h2 rfl
    refine sf h2 ?_
    have e : wrap64 (Int.tdiv (n : Int) 2) = ((n / 2 : Nat) : Int) := by
      rw [tdiv_nn (by omega), w64 (by omega) (by omega)]
      omega
    rw [e]
    refine sb (seed_ok M (n / 2) hM (by omega) b hb k (by omega)).2 ?_
    refine st (by omega) (st (by omega) ?_)
    rw [Int.toNat_natCast, seq_take M (n / 2) n b (by omega)]
    exact sb (laws_flInts_self _ (by rw [seq_length]; omega) k (by omega)) rfl
  | succ d ih =>
    intro k i hi hd hk
    obtain ⟨k, rfl⟩ : ∃ m, k = m + 1 := ⟨k - 1, by omega⟩
    have hin := seq_in M hM n b hb _ (List.getElem_mem (show i < (seq M n b).length by omega))
    simp only [laws_FnSchedTurns.l1]
    rw [if_pos (by omega), if_pos (by omega), rd_at _ i (by omega), if_neg (by omega), if_neg (by omega), wnext i (by omega)]
    exact ih k (i + 1) (by omega) (by omega) (by omega)
theorem l1_nil (a b c : Int) (k : Nat) : laws_FnSchedTurns.l1 (k + 1) a b c [] 0 = some true := by
  simp [laws_FnSchedTurns.l1]
theorem seed_part (l : List Int) (hw : ∀ x ∈ l, (Lit.int .u8 x).wf = true) : ∃ (t : Int × Int × Int) (r : List Int), spec_DrawSchedSeed.f l = some t ∧ r.length ≤ 4000 ∧ ∀ k, 1060000 < k → impl_SchedSeed.f k t.1 t.2.1 t.2.2 = some r ∧ spec_SchedSeed.f k t.1 t.2.1 t.2.2 = some r ∧ laws_FnSchedTurns.l1 k t.1 t.2.1 t.2.2 r 0 = some true := by
  obtain ⟨xs, hx, hb⟩ := open_bytes l hw
  obtain ⟨a, b, c, hd⟩ := draw_seed hb l hx
  rcases seed_cases a b c with h | ⟨M, n, hM, hn, rfl, rfl, hb⟩
  · refine ⟨(a, b, c), [], hd, by simp, fun k hk => ⟨(h k (by omega)).2, (h k (by omega)).1, ?_⟩⟩
    obtain ⟨k, rfl⟩ : ∃ m, k = m + 1 := ⟨k - 1, by omega⟩
    exact l1_nil _ _ _ k
  · refine ⟨((M : Int) - 1, b, (n : Int)), seq M n b, hd, by rw [seq_length]; exact hn, fun k hk => ⟨(seed_ok M n hM hn b hb k (by omega)).2, (seed_ok M n hM hn b hb k (by omega)).1, ?_⟩⟩
    exact l1_go M n hM hn b hb n k 0 (by omega) (by omega) (by omega)
theorem l0_go (l : List Int) (hw : ∀ x ∈ l, (Lit.int .u8 x).wf = true) (M n : Nat) (hM : 2 ≤ M ∧ M ≤ 4) (hn : n * M ≤ 4000) (hn2 : n ≤ 4000) (d : Nat) : ∀ (k i : Nat), i ≤ M → M - i = d → d + 1060001 < k →
    laws_FnSchedTurns.l0 k l ((M : Int) - 1) (n : Int) (rowOf M (n * M)) ((rowOf M (n * M)).foldl (hit ((M : Int) - 1)) (List.replicate (M + 2) 0)) (i : Int) = some true := by
  have hL := rowOf_length M (n * M)
  have hC : ((rowOf M (n * M)).foldl (hit ((M : Int) - 1)) (List.replicate (M + 2) 0)).length = M + 2 := by rw [hit_length]; simp
  have hc := count_inv M hM n hn2 (List.replicate (M + 2) 0) (fun j hj => by rw [List.getElem?_replicate, if_pos (by omega)])
  generalize (rowOf M (n * M)).foldl (hit ((M : Int) - 1)) (List.replicate (M + 2) 0) = cs at hC hc
  induction d with
  | zero =>
    intro k i hi hd hk
    obtain ⟨k, rfl⟩ : ∃ m, k = m + 1 := ⟨k - 1, by omega⟩
    simp only [laws_FnSchedTurns.l0]
    rw [if_neg (by omega)]
    obtain ⟨t, r, h1, h2, h3⟩ := seed_part l hw
    obtain ⟨g1, g2, g3⟩ := h3 k (by omega)
    exact sb h1 (sb g1 (sb g2 (sb (laws_flInts_self r (by omega) k (by omega)) (st rfl g3))))
  | succ d ih =>
    intro k i hi hd hk
    obtain ⟨k, rfl⟩ : ∃ m, k = m + 1 := ⟨k - 1, by omega⟩
    have e : rd cs (i : Int) = (n : Int) := by
      have := hc i (by omega)
      simp [rd, List.getD, this]
    have hg := gap_inv M n i hM (by omega)
    simp only [laws_FnSchedTurns.l0]
    rw [if_pos (by omega), if_pos (by omega), if_pos (by omega), e, if_pos rfl, wnext i (by omega)]
    refine sb (impl_gap_eq _ (i : Int) (by omega) k (by omega)) ?_
    have := hg.2.2.2
    refine sf (by omega) ?_
    exact ih k (i + 1) (by omega) (by omega) (by omega)
theorem FnSchedTurns (l : List Int) (hg : l.length ≤ maxLen ∧ ∀ x ∈ l, (Lit.int .u8 x).wf = true) : ∃ k, laws_FnSchedTurns.f k l = some true := by
  obtain ⟨K, hK⟩ : ∃ K, 1060010 < K := ⟨1060011, by omega⟩
  refine ⟨K, ?_⟩
  unfold laws_FnSchedTurns.f
  by_cases h : (l.length : Int) > 1048576
  · rw [if_pos h]
  refine sf h ?_
  obtain ⟨xs, hx, hb⟩ := open_bytes l hg.2
  obtain ⟨a, b, hd, ha, hb2⟩ := draw_round hb l hx
  obtain ⟨r, hr, hcase⟩ := round_both a b ha hb2
  obtain ⟨hr1, hr2⟩ := hr K (by omega)
  have hlen : r.length ≤ 4000 := by
    rcases hcase with ⟨rfl, _⟩ | ⟨M, n, rfl, _, _, hnn, _⟩
    · simp
    · rw [rowOf_length]
      exact hnn
  refine sb hd (sb hr2 (sb hr1 (sb (laws_flInts_self r (by omega) K (by omega)) (st rfl ?_))))
  by_cases h0 : (r.length : Int) > 0
  · rcases hcase with ⟨rfl, _⟩ | ⟨M, n, rfl, hM1, hM2, hn, hn2, rfl, rfl⟩
    · simp at h0
    · exact st h0 (sb (count_eq M ⟨hM1, hM2⟩ _ (by omega) K (by omega)) (l0_go l hg.2 M n ⟨hM1, hM2⟩ hn hn2 M K 0 (by omega) (by omega) (by omega)))
  · obtain ⟨t, r2, h1, h2, h3⟩ := seed_part l hg.2
    obtain ⟨g1, g2, g3⟩ := h3 K (by omega)
    exact sf h0 (sb h1 (sb g1 (sb g2 (sb (laws_flInts_self r2 (by omega) K (by omega)) (st rfl g3)))))

end Go.Proofs.Ytpalgpgeicpaoaa.Pure
