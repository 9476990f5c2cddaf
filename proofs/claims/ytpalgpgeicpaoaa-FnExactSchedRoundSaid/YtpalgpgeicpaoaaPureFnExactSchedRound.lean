/- SchedRound of the program answers as the reference does, at all ints, with new memory each time. No condition. -/
import Derived.Test.YtpalgpgeicpaoaaQFnExactSchedRoundx2
namespace Go.Proofs.Ytpalgpgeicpaoaa.Pure
open Go.RowKit Go.Proofs.Ytpalgpgeicpaoaa.QFnExactSchedRound Go.Proofs.YtpalgpgeicpaoaaW.PrintWords Go.Proofs.YtpalgpgeicpaoaaW.PrintLast Go.Proofs.YtpalgpgeicpaoaaW.PrintMore
set_option linter.unusedVariables false
set_option linter.unusedSimpArgs false

theorem w64 {x : Int} (h0 : -9223372036854775808 ≤ x) (h1 : x ≤ 9223372036854775807) : wrap64 x = x := by
  unfold wrap64
  omega
theorem wnext (i : Nat) (h : i < 9223372036854775807) : wrap64 ((i : Int) + 1) = ((i + 1 : Nat) : Int) := by
  unfold wrap64
  omega
theorem rdOf_at {α : Type} (d : α) (l : List α) (i : Nat) (h : i < l.length) : rdOf d l (i : Int) = l[i] := by
  simp [rdOf, List.getD, h]
theorem rd_at (l : List Int) (i : Nat) (h : i < l.length) : rd l (i : Int) = l[i] := by
  simp [rd, List.getD, h]
theorem set_step {α : Type} (l m : List α) (i : Nat) (v : α) (hl : l.length = m.length) (hi : i < m.length) (hv : m[i]? = some v)
    (hp : ∀ j, j < i → l[j]? = m[j]?) : (l.set i v).length = m.length ∧ ∀ j, j < i + 1 → (l.set i v)[j]? = m[j]? := by
  refine ⟨by simp [hl], fun j hj => ?_⟩
  rw [List.getElem?_set]
  by_cases e : i = j
  · subst e
    rw [if_pos rfl, if_pos (by omega), hv]
  · rw [if_neg e]
    exact hp j (by omega)
theorem all_eq {α : Type} (l m : List α) (hl : l.length = m.length) (hp : ∀ j, j < m.length → l[j]? = m[j]?) : l = m := by
  apply List.ext_getElem?
  intro j
  by_cases hj : j < m.length
  · exact hp j hj
  · rw [List.getElem?_eq_none (by omega), List.getElem?_eq_none (by omega)]

theorem b64 {n : Int} (h : (Lit.int .i64 n).wf = true) : -9223372036854775808 ≤ n ∧ n ≤ 9223372036854775807 := by
  simp [Lit.wf, IntKind.min, IntKind.max, IntKind.signed, IntKind.bits] at h
  omega
theorem b8 {n : Int} (h : (Lit.int .u8 n).wf = true) : 0 ≤ n ∧ n ≤ 255 := by
  simp [Lit.wf, IntKind.min, IntKind.max, IntKind.signed, IntKind.bits] at h
  omega

theorem tdiv_nn {a : Int} (h : 0 ≤ a) (b : Int) : Int.tdiv a b = a / b := Int.tdiv_eq_ediv_of_nonneg h
theorem tmod_nn {a : Int} (h : 0 ≤ a) (b : Int) : Int.tmod a b = a % b := Int.tmod_eq_emod_of_nonneg h

theorem laws_eqIntS_go (l : List Int) (hl : l.length ≤ 1048576) (d : Nat) : ∀ (k i : Nat), i ≤ l.length → l.length - i = d → d < k → laws_eqIntS.l0 k l l (i : Int) = some true := by
  induction d with
  | zero =>
    intro k i hi hd hk
    obtain ⟨k, rfl⟩ : ∃ m, k = m + 1 := ⟨k - 1, by omega⟩
    simp only [laws_eqIntS.l0]
    rw [if_neg (by omega)]
  | succ d ih =>
    intro k i hi hd hk
    obtain ⟨k, rfl⟩ : ∃ m, k = m + 1 := ⟨k - 1, by omega⟩
    simp only [laws_eqIntS.l0]
    rw [if_pos (by omega), if_pos (by omega), if_pos (by omega), wnext i (by omega), if_pos trivial]
    exact ih k (i + 1) (by omega) (by omega) (by omega)
theorem laws_eqIntS_self (l : List Int) (hl : l.length ≤ 1048576) (k : Nat) (hk : 1048576 < k) : laws_eqIntS.f k l l = some true := by
  unfold laws_eqIntS.f
  rw [if_pos rfl]
  exact laws_eqIntS_go l hl l.length k 0 (by omega) (by omega) (by omega)

def laws_markIntS_list (l : List Int) (n : Int) : List Int := (List.range l.length).map fun j : Nat => (fun m : Int => m) (n + (j : Int))
theorem laws_markIntS_list_length (l : List Int) (n : Int) : (laws_markIntS_list l n).length = l.length := by simp [laws_markIntS_list]
theorem laws_markIntS_list_at (l : List Int) (n : Int) (i : Nat) (h : i < l.length) : (laws_markIntS_list l n)[i]? = some ((fun m : Int => m) (n + (i : Int))) := by simp [laws_markIntS_list, h]
theorem laws_markIntS_go (l : List Int) (n : Int) (hn : 0 ≤ n ∧ n ≤ 4611686018427387904) (hl : l.length ≤ 1048576) (d : Nat) : ∀ (k i : Nat) (acc : List Int), acc.length = (laws_markIntS_list l n).length → i ≤ l.length → l.length - i = d → d < k →
    (∀ j, j < i → acc[j]? = (laws_markIntS_list l n)[j]?) → laws_markIntS.l0 k acc (n + (i : Int)) (i : Int) = some (n + (l.length : Int), laws_markIntS_list l n) := by
  induction d with
  | zero =>
    intro k i acc ha hi hd hk hp
    obtain ⟨k, rfl⟩ : ∃ m, k = m + 1 := ⟨k - 1, by omega⟩
    have hL := laws_markIntS_list_length l n
    simp only [laws_markIntS.l0]
    rw [if_neg (by omega), all_eq acc (laws_markIntS_list l n) ha (fun j hj => hp j (by omega)), show i = l.length by omega]
  | succ d ih =>
    intro k i acc ha hi hd hk hp
    obtain ⟨k, rfl⟩ : ∃ m, k = m + 1 := ⟨k - 1, by omega⟩
    have hL := laws_markIntS_list_length l n
    simp only [laws_markIntS.l0]
    rw [if_pos (by omega), if_pos (by omega), wnext i (by omega), Int.toNat_natCast, w64 (by omega) (by omega), show n + (i : Int) + 1 = n + ((i + 1 : Nat) : Int) by omega]
    obtain ⟨h1, h2⟩ := set_step acc (laws_markIntS_list l n) i _ ha (by omega) (laws_markIntS_list_at l n i (by omega)) hp
    exact ih k (i + 1) _ h1 (by omega) (by omega) (by omega) h2
theorem laws_markIntS_eq (l : List Int) (n : Int) (hn : 0 ≤ n ∧ n ≤ 4611686018427387904) (hl : l.length ≤ 1048576) (k : Nat) (hk : 1048576 < k) : laws_markIntS.f k l n = some (n + (l.length : Int), laws_markIntS_list l n) := by
  have hL := laws_markIntS_list_length l n
  have h := laws_markIntS_go l n hn hl l.length k 0 l (by omega) (by omega) (by omega) (by omega) (by intro j hj; omega)
  unfold laws_markIntS.f
  simpa using h

theorem laws_heldIntS_go (l : List Int) (n : Int) (hn : 0 ≤ n ∧ n ≤ 4611686018427387904) (hl : l.length ≤ 1048576) (d : Nat) : ∀ (k i : Nat), i ≤ l.length → l.length - i = d → d < k →
    laws_heldIntS.l0 k (laws_markIntS_list l n) (n + (i : Int)) (i : Int) = some (n + (l.length : Int)) := by
  induction d with
  | zero =>
    intro k i hi hd hk
    obtain ⟨k, rfl⟩ : ∃ m, k = m + 1 := ⟨k - 1, by omega⟩
    have hL := laws_markIntS_list_length l n
    simp only [laws_heldIntS.l0]
    rw [if_neg (by omega), show i = l.length by omega]
  | succ d ih =>
    intro k i hi hd hk
    obtain ⟨k, rfl⟩ : ∃ m, k = m + 1 := ⟨k - 1, by omega⟩
    have hL := laws_markIntS_list_length l n
    have hv : (laws_markIntS_list l n)[i] = (fun m : Int => m) (n + (i : Int)) := by simp [laws_markIntS_list]
    simp only [laws_heldIntS.l0]
    rw [if_pos (by omega), if_pos (by omega), rd_at (laws_markIntS_list l n) i (by omega), hv, if_pos rfl, wnext i (by omega), w64 (by omega) (by omega), show n + (i : Int) + 1 = n + ((i + 1 : Nat) : Int) by omega]
    exact ih k (i + 1) (by omega) (by omega) (by omega)
theorem laws_heldIntS_eq (l : List Int) (n : Int) (hn : 0 ≤ n ∧ n ≤ 4611686018427387904) (hl : l.length ≤ 1048576) (k : Nat) (hk : 1048576 < k) : laws_heldIntS.f k (laws_markIntS_list l n) n = some (n + (l.length : Int)) := by
  have h := laws_heldIntS_go l n hn hl l.length k 0 (by omega) (by omega) (by omega)
  unfold laws_heldIntS.f
  simpa using h

theorem neg_len (n : Nat) : ¬ ((1 : Int) + (n : Int) < 0) := by omega
theorem bne_no (b : Bool) : ¬ ((b != b) = true) := by simp
theorem ff : ¬ (false = true) := by simp
theorem ntt : ¬ ((!true) = true) := by simp
theorem sb {α β : Type} {o : Option α} {v : α} {f : α → Option β} {r : Option β} (h : o = some v) (k : f v = r) : o.bind f = r := by rw [h]; exact k
theorem st {α : Type} {c : Prop} [Decidable c] {a b r : α} (h : c) (k : a = r) : (if c then a else b) = r := by rw [if_pos h]; exact k
theorem sf {α : Type} {c : Prop} [Decidable c] {a b r : α} (h : ¬ c) (k : b = r) : (if c then a else b) = r := by rw [if_neg h]; exact k

def rowOf (M n : Nat) : List Int := (List.range n).map fun i : Nat => ((i % M : Nat) : Int)
theorem rowOf_succ (M n : Nat) : rowOf M (n + 1) = rowOf M n ++ [((n % M : Nat) : Int)] := by simp [rowOf, List.range_succ]
theorem rowOf_length (M n : Nat) : (rowOf M n).length = n := by simp [rowOf]
theorem tmod_nat (i M : Nat) : Int.tmod (i : Int) (M : Int) = ((i % M : Nat) : Int) := by
  rw [tmod_nn (by omega)]
  simp
theorem wM {M : Nat} (h : 2 ≤ M ∧ M ≤ 4) : wrap64 ((M : Int) - 1 + 1) = (M : Int) := by
  rw [w64 (by omega) (by omega)]
  omega
theorem spec_row (M n T : Nat) (hM : 2 ≤ M ∧ M ≤ 4) (hT : n * M = T) (hn : T ≤ 4000) (d : Nat) : ∀ (k i : Nat), i ≤ T → T - i = d → d < k →
    spec_SchedRound.l0 k ((M : Int) - 1) (n : Int) (rowOf M i) (i : Int) = some (rowOf M T) := by
  have e : wrap64 ((n : Int) * (M : Int)) = (T : Int) := by
    rw [← Int.natCast_mul, hT, w64 (by omega) (by omega)]
  induction d with
  | zero =>
    intro k i hi hd hk
    obtain ⟨k, rfl⟩ : ∃ m, k = m + 1 := ⟨k - 1, by omega⟩
    simp only [spec_SchedRound.l0]
    rw [wM hM, e, if_neg (by omega), show i = T by omega]
  | succ d ih =>
    intro k i hi hd hk
    obtain ⟨k, rfl⟩ : ∃ m, k = m + 1 := ⟨k - 1, by omega⟩
    have hL := rowOf_length M i
    simp only [spec_SchedRound.l0]
    rw [wM hM, e, if_pos (by omega), if_neg (by omega), if_pos (by omega), tmod_nat, ← rowOf_succ, wnext i (by omega)]
    exact ih k (i + 1) (by omega) (by omega) (by omega)
theorem impl_row1 (M n q : Nat) (hM : 2 ≤ M ∧ M ≤ 4) (hq : q * M ≤ 4000) (hq2 : q ≤ 4000) (d : Nat) : ∀ (k p : Nat), p ≤ M → M - p = d →
    impl_SchedRound.l1 (k + d + 1) ((M : Int) - 1) (rowOf M (q * M + p)) (n : Int) (q : Int) (M : Int) (p : Int) = impl_SchedRound.l0 k ((M : Int) - 1) (rowOf M ((q + 1) * M)) (n : Int) ((q + 1 : Nat) : Int) := by
  induction d with
  | zero =>
    intro k p hp hd
    simp only [Nat.add_zero, impl_SchedRound.l1]
    rw [if_neg (by omega), wnext q (by omega), show p = M by omega, Nat.succ_mul]
  | succ d ih =>
    intro k p hp hd
    have hL := rowOf_length M (q * M + p)
    have hm : (q * M + p) % M = p := by
      rw [Nat.mul_comm, Nat.mul_add_mod, Nat.mod_eq_of_lt (by omega)]
    rw [show k + (d + 1) + 1 = (k + d + 1) + 1 by omega]
    simp only [impl_SchedRound.l1]
    rw [if_pos (by omega), if_pos (by omega), wnext p (by omega)]
    have e : rowOf M (q * M + p) ++ [(p : Int)] = rowOf M (q * M + (p + 1)) := by
      rw [← Nat.add_assoc, rowOf_succ, hm]
    rw [e]
    exact ih k (p + 1) (by omega) (by omega)
theorem impl_row0 (M n T : Nat) (hM : 2 ≤ M ∧ M ≤ 4) (hT : n * M = T) (hn : T ≤ 4000) (hn2 : n ≤ 4000) (d : Nat) : ∀ (k q : Nat), q ≤ n → n - q = d →
    impl_SchedRound.l0 (k + 6 * d + 1) ((M : Int) - 1) (rowOf M (q * M)) (n : Int) (q : Int) = some (rowOf M T) := by
  induction d with
  | zero =>
    intro k q hq hd
    simp only [Nat.mul_zero, Nat.add_zero, impl_SchedRound.l0]
    rw [if_neg (by omega), show q = n by omega, hT]
  | succ d ih =>
    intro k q hq hd
    have h1 : q * M ≤ n * M := Nat.mul_le_mul_right M hq
    rw [show k + 6 * (d + 1) + 1 = (k + 6 * d + 6) + 1 by omega]
    simp only [impl_SchedRound.l0]
    rw [if_pos (by omega), wM hM, show k + 6 * d + 6 = (k + (4 - M) + 6 * d + 1) + M + 1 by omega]
    have := impl_row1 M n q hM (by omega) (by omega) M (k + (4 - M) + 6 * d + 1) 0 (by omega) (by omega)
    rw [Nat.add_zero] at this
    refine Eq.trans this ?_
    exact ih (k + (4 - M)) (q + 1) (by omega) (by omega)
theorem round_both (a b : Int) (ha : -9223372036854775808 ≤ a ∧ a ≤ 9223372036854775807) (hb : b ≤ 9223372036854775807) :
    ∃ r, (∀ K, 100000 < K → spec_SchedRound.f K a b = some r ∧ impl_SchedRound.f K a b = some r) ∧
      ((r = [] ∧ (¬ (1 ≤ a ∧ a ≤ 3) ∨ b < 0 ∨ 4000 < b * (a + 1))) ∨ ∃ M n : Nat, r = rowOf M (n * M) ∧ 2 ≤ M ∧ M ≤ 4 ∧ n * M ≤ 4000 ∧ n ≤ 4000 ∧ a = (M : Int) - 1 ∧ b = (n : Int)) := by
  have none_of : ∀ K, 100000 < K → spec_SchedRound.j0 K a b true = some [] ∧ impl_SchedRound.j0 K a b true = some [] := by
    intro K hK
    obtain ⟨K, rfl⟩ : ∃ m, K = m + 1 := ⟨K - 1, by omega⟩
    simp only [spec_SchedRound.j0, impl_SchedRound.j0, if_true, and_self]
  by_cases h1 : 1 ≤ a ∧ a ≤ 3
  · have e1 : spec_l18Ok.f a = some true := by
      unfold spec_l18Ok.f
      rw [if_pos h1.1, decide_eq_true h1.2]
    have e2 : impl_threadsOk.f a = some true := by
      unfold impl_threadsOk.f
      rw [if_pos h1.1, decide_eq_true h1.2]
    by_cases h2 : b < 0
    · refine ⟨[], fun K hK => ?_, .inl ⟨rfl, .inr (.inl h2)⟩⟩
      unfold spec_SchedRound.f impl_SchedRound.f
      rw [e1, e2]
      simp only [Option.bind_some, if_true]
      rw [if_pos h2, if_pos h2]
      exact none_of K hK
    obtain ⟨M, rfl⟩ : ∃ M : Nat, a = (M : Int) - 1 := ⟨(a + 1).toNat, by omega⟩
    obtain ⟨n, rfl⟩ : ∃ n : Nat, b = (n : Int) := ⟨b.toNat, by omega⟩
    have hM : 2 ≤ M ∧ M ≤ 4 := by omega
    have ew := wM hM
    have e3 : wrap64 ((4000 : Int) / (M : Int)) = ((4000 / M : Nat) : Int) := by
      have hd : (4000 / M : Nat) ≤ 4000 := Nat.div_le_self _ _
      have e : (4000 : Int) / (M : Int) = ((4000 / M : Nat) : Int) := by simp
      rw [e]
      generalize 4000 / M = D at hd ⊢
      exact w64 (by omega) (by omega)
    have hdiv : n ≤ 4000 / M ↔ n * M ≤ 4000 := Nat.le_div_iff_mul_le (by omega)
    by_cases h3 : n ≤ 4000 / M
    · refine ⟨rowOf M (n * M), fun K hK => ?_, .inr ⟨M, n, rfl, hM.1, hM.2, hdiv.1 h3, Nat.le_trans h3 (Nat.div_le_self _ _), rfl, rfl⟩⟩
      have hn2 : n ≤ 4000 := Nat.le_trans h3 (Nat.div_le_self _ _)
      obtain ⟨k, rfl⟩ : ∃ k, K = (k + 6 * n + 1) + 1 := ⟨K - 6 * n - 2, by omega⟩
      unfold spec_SchedRound.f impl_SchedRound.f
      rw [e1, e2]
      simp only [Option.bind_some, if_true]
      rw [if_neg h2, if_neg h2, ew, if_neg (by omega), if_neg (by omega), e3, decide_eq_false (by omega)]
      simp only [spec_SchedRound.j0, impl_SchedRound.j0, Bool.false_eq_true, if_false]
      refine ⟨spec_row M n (n * M) hM rfl (hdiv.1 h3) (n * M) (k + 6 * n + 1) 0 (by omega) (by omega) (by have := hdiv.1 h3; omega), ?_⟩
      have := impl_row0 M n (n * M) hM rfl (hdiv.1 h3) hn2 n k 0 (by omega) (by omega)
      rw [Nat.zero_mul] at this
      exact this
    · refine ⟨[], fun K hK => ?_, .inl ⟨rfl, .inr (.inr ?_)⟩⟩
      · unfold spec_SchedRound.f impl_SchedRound.f
        rw [e1, e2]
        simp only [Option.bind_some, if_true]
        rw [if_neg h2, if_neg h2, ew, if_neg (by omega), if_neg (by omega), e3, decide_eq_true (by omega)]
        exact none_of K hK
      · have := fun h => h3 (hdiv.2 h)
        have e : (n : Int) * ((M : Int) - 1 + 1) = ((n * M : Nat) : Int) := by
          rw [show (M : Int) - 1 + 1 = (M : Int) by omega]
          simp
        rw [e]
        omega
  · refine ⟨[], fun K hK => ?_, .inl ⟨rfl, .inl h1⟩⟩
    have e1 : spec_l18Ok.f a = some false := by
      unfold spec_l18Ok.f
      by_cases g : a ≥ 1
      · rw [if_pos g, decide_eq_false (by omega)]
      · rw [if_neg g]
    have e2 : impl_threadsOk.f a = some false := by
      unfold impl_threadsOk.f
      by_cases g : a ≥ 1
      · rw [if_pos g, decide_eq_false (by omega)]
      · rw [if_neg g]
    unfold spec_SchedRound.f impl_SchedRound.f
    rw [e1, e2]
    simp only [Option.bind_some, Bool.false_eq_true, if_false]
    exact none_of K hK

theorem FnExactSchedRound (a b : Int) (ha : (Lit.int .i64 a).wf = true) (hb : (Lit.int .i64 b).wf = true) : ∃ k, laws_FnExactSchedRound.f k a b = some true := by
  obtain ⟨r, hr, hc⟩ := round_both a b (b64 ha) (b64 hb).2
  have hl : r.length ≤ 1048576 := by
    rcases hc with ⟨rfl, _⟩ | ⟨M, n, rfl, _, _, h, _⟩
    · simp
    · rw [rowOf_length]
      omega
  have hS : ∀ K, 100000 < K → spec_SchedRound.f K a b = some r := fun K hK => (hr K hK).1
  have hI : ∀ K, 100000 < K → impl_SchedRound.f K a b = some r := fun K hK => (hr K hK).2
  obtain ⟨K, hK⟩ : ∃ K, 1048576 < K := ⟨1048577, by omega⟩
  refine ⟨K, ?_⟩
  unfold laws_FnExactSchedRound.f
  repeat (first
    | (with_reducible refine st rfl ?_)
    | (with_reducible refine sf (neg_len _) ?_)
    | (with_reducible refine sf (bne_no _) ?_)
    | (with_reducible refine sf ff ?_)
    | (with_reducible refine sf ntt ?_)
    | ((with_reducible refine sb (hS _ ?_) ?_); omega; try dsimp only)
    | ((with_reducible refine sb (hI _ ?_) ?_); omega; try dsimp only)
    | ((with_reducible refine sb (laws_eqIntS_self _ hl _ ?_) ?_); omega; try dsimp only)
    | ((with_reducible refine sb (laws_markIntS_eq _ 1 ?_ hl _ ?_) ?_); omega; omega; try dsimp only)
    | ((with_reducible refine sb (laws_heldIntS_eq _ 1 ?_ hl _ ?_) ?_); omega; omega; try dsimp only)
    | (with_reducible rfl))

end Go.Proofs.Ytpalgpgeicpaoaa.Pure
