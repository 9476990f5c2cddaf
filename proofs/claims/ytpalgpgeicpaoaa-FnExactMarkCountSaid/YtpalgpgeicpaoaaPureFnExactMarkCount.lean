/- MarkCount of the program answers as the reference does, at every slice of bools of at most 2^20 elements and every int, and leaves its argument alone. No condition. -/
import Derived.Test.YtpalgpgeicpaoaaQFnExactMarkCountx2
namespace Go.Proofs.Ytpalgpgeicpaoaa.Pure
open Go.RowKit Go.Proofs.Ytpalgpgeicpaoaa.QFnExactMarkCount Go.Proofs.YtpalgpgeicpaoaaW.PrintWords Go.Proofs.YtpalgpgeicpaoaaW.PrintLast Go.Proofs.YtpalgpgeicpaoaaW.PrintMore
set_option linter.unusedVariables false
set_option linter.unusedSimpArgs false

theorem w64 {x : Int} (h0 : -9223372036854775808 ≤ x) (h1 : x ≤ 9223372036854775807) : wrap64 x = x := by
  unfold wrap64
  omega
theorem wnext (i : Nat) (h : i < 9223372036854775807) : wrap64 ((i : Int) + 1) = ((i + 1 : Nat) : Int) := by
  unfold wrap64
  omega
theorem rdOf_at {α : Type} (d : α) (l : List α) (i : Nat) (h : i < l.length) : rdOf d l (i : Int) = l[i] := by
  simp [rdOf, List.getD, h]
theorem rd_at (l : List Int) (i : Nat) (h : i < l.length) : rd l (i : Int) = l[i] := by
  simp [rd, List.getD, h]
theorem set_step {α : Type} (l m : List α) (i : Nat) (v : α) (hl : l.length = m.length) (hi : i < m.length) (hv : m[i]? = some v)
    (hp : ∀ j, j < i → l[j]? = m[j]?) : (l.set i v).length = m.length ∧ ∀ j, j < i + 1 → (l.set i v)[j]? = m[j]? := by
  refine ⟨by simp [hl], fun j hj => ?_⟩
  rw [List.getElem?_set]
  by_cases e : i = j
  · subst e
    rw [if_pos rfl, if_pos (by omega), hv]
  · rw [if_neg e]
    exact hp j (by omega)
theorem all_eq {α : Type} (l m : List α) (hl : l.length = m.length) (hp : ∀ j, j < m.length → l[j]? = m[j]?) : l = m := by
  apply List.ext_getElem?
  intro j
  by_cases hj : j < m.length
  · exact hp j hj
  · rw [List.getElem?_eq_none (by omega), List.getElem?_eq_none (by omega)]

theorem b64 {n : Int} (h : (Lit.int .i64 n).wf = true) : -9223372036854775808 ≤ n ∧ n ≤ 9223372036854775807 := by
  simp [Lit.wf, IntKind.min, IntKind.max, IntKind.signed, IntKind.bits] at h
  omega
theorem b8 {n : Int} (h : (Lit.int .u8 n).wf = true) : 0 ≤ n ∧ n ≤ 255 := by
  simp [Lit.wf, IntKind.min, IntKind.max, IntKind.signed, IntKind.bits] at h
  omega

theorem tdiv_nn {a : Int} (h : 0 ≤ a) (b : Int) : Int.tdiv a b = a / b := Int.tdiv_eq_ediv_of_nonneg h
theorem tmod_nn {a : Int} (h : 0 ≤ a) (b : Int) : Int.tmod a b = a % b := Int.tmod_eq_emod_of_nonneg h

theorem laws_toBoolS_go (l : List Bool) (hl : l.length ≤ 1048576) (d : Nat) : ∀ (k i : Nat) (acc : List Bool), acc.length = l.length → i ≤ l.length → l.length - i = d → d < k →
    (∀ j, j < i → acc[j]? = l[j]?) → laws_toBoolS.l0 k l acc (i : Int) = some l := by
  induction d with
  | zero =>
    intro k i acc ha hi hd hk hp
    obtain ⟨k, rfl⟩ : ∃ m, k = m + 1 := ⟨k - 1, by omega⟩
    simp only [laws_toBoolS.l0]
    rw [if_neg (by omega)]
    exact congrArg some (all_eq acc l ha (fun j hj => hp j (by omega)))
  | succ d ih =>
    intro k i acc ha hi hd hk hp
    obtain ⟨k, rfl⟩ : ∃ m, k = m + 1 := ⟨k - 1, by omega⟩
    simp only [laws_toBoolS.l0]
    rw [if_pos (by omega), if_pos (by omega), if_pos (by omega), wnext i (by omega), rdOf_at false l i (by omega), Int.toNat_natCast]
    obtain ⟨h1, h2⟩ := set_step acc l i l[i] ha (by omega) (by simp) hp
    exact ih k (i + 1) _ h1 (by omega) (by omega) (by omega) h2
theorem laws_toBoolS_eq (l : List Bool) (hl : l.length ≤ 1048576) (k : Nat) (hk : 1048576 < k) : laws_toBoolS.f k l = some l := by
  unfold laws_toBoolS.f
  rw [if_pos (by omega), if_pos (by omega)]
  exact laws_toBoolS_go l hl l.length k 0 _ (by simp) (by omega) (by omega) (by omega) (by intro j hj; omega)

theorem laws_eqBoolS_go (l : List Bool) (hl : l.length ≤ 1048576) (d : Nat) : ∀ (k i : Nat), i ≤ l.length → l.length - i = d → d < k → laws_eqBoolS.l0 k l l (i : Int) = some true := by
  induction d with
  | zero =>
    intro k i hi hd hk
    obtain ⟨k, rfl⟩ : ∃ m, k = m + 1 := ⟨k - 1, by omega⟩
    simp only [laws_eqBoolS.l0]
    rw [if_neg (by omega)]
  | succ d ih =>
    intro k i hi hd hk
    obtain ⟨k, rfl⟩ : ∃ m, k = m + 1 := ⟨k - 1, by omega⟩
    simp only [laws_eqBoolS.l0]
    rw [if_pos (by omega), if_pos (by omega), if_pos (by omega), wnext i (by omega), if_neg (by simp)]
    exact ih k (i + 1) (by omega) (by omega) (by omega)
theorem laws_eqBoolS_self (l : List Bool) (hl : l.length ≤ 1048576) (k : Nat) (hk : 1048576 < k) : laws_eqBoolS.f k l l = some true := by
  unfold laws_eqBoolS.f
  rw [if_pos rfl]
  exact laws_eqBoolS_go l hl l.length k 0 (by omega) (by omega) (by omega)

theorem words_of (n : Nat) : impl_WordsOk.f (List.replicate n 0) = if (n : Int) % 16 = 0 then (if (n : Int) ≥ 32 then some (decide ((n : Int) ≤ 192)) else some false) else some false := by
  unfold impl_WordsOk.f
  rw [List.length_replicate]
theorem marks_ok (l : List Bool) (hl : l.length ≤ 1048576) : spec_l10Ok.f l = impl_marksOk.f l := by
  unfold impl_marksOk.f
  rw [if_pos (by omega), if_pos (by omega), Int.toNat_natCast, words_of l.length]
  unfold spec_l10Ok.f
  by_cases h : ((l.length : Int) % 16) = 0
  · rw [if_pos h, if_pos h, w64 (by omega) (by omega)]
    by_cases h2 : (l.length : Int) / 16 ≥ 2
    · rw [if_pos h2, if_pos (by omega)]
      simp only [Option.bind_some]
      congr 1
      exact decide_eq_decide.2 (by omega)
    · rw [if_neg h2, if_neg (by omega)]
      rfl
  · rw [if_neg h, if_neg h]
    rfl
theorem marks_some (l : List Bool) (hl : l.length ≤ 1048576) : ∃ b, impl_marksOk.f l = some b := by
  rw [← marks_ok l hl]
  unfold spec_l10Ok.f
  split
  · split <;> exact ⟨_, rfl⟩
  · exact ⟨_, rfl⟩

theorem neg_len (n : Nat) : ¬ ((1 : Int) + (n : Int) < 0) := by omega
theorem bne_no (b : Bool) : ¬ ((b != b) = true) := by simp
theorem ff : ¬ (false = true) := by simp
theorem ntt : ¬ ((!true) = true) := by simp
theorem sb {α β : Type} {o : Option α} {v : α} {f : α → Option β} {r : Option β} (h : o = some v) (k : f v = r) : o.bind f = r := by rw [h]; exact k
theorem st {α : Type} {c : Prop} [Decidable c] {a b r : α} (h : c) (k : a = r) : (if c then a else b) = r := by rw [if_pos h]; exact k
theorem sf {α : Type} {c : Prop} [Decidable c] {a b r : α} (h : ¬ c) (k : b = r) : (if c then a else b) = r := by rw [if_neg h]; exact k

def okB (l : List Bool) : Bool := decide ((l.length : Int) % 16 = 0 ∧ 32 ≤ l.length ∧ l.length ≤ 192)
theorem marks_eq (l : List Bool) (hl : l.length ≤ 1048576) : impl_marksOk.f l = some (okB l) := by
  unfold impl_marksOk.f okB
  rw [if_pos (by omega), if_pos (by omega), Int.toNat_natCast, words_of l.length]
  by_cases h : ((l.length : Int) % 16) = 0
  · rw [if_pos h]
    by_cases h2 : (l.length : Int) ≥ 32
    · rw [if_pos h2]
      simp only [Option.bind_some]
      exact congrArg some (decide_eq_decide.2 (by omega))
    · rw [if_neg h2]
      exact congrArg some (decide_eq_false (by omega)).symm
  · rw [if_neg h]
    exact congrArg some (decide_eq_false (by omega)).symm
theorem spec_has (l : List Bool) (i : Nat) (hl : l.length ≤ 1048576) (hi : i < l.length) : spec_MarkHas.f l (i : Int) = some (okB l && l[i]) := by
  unfold spec_MarkHas.f
  rw [marks_ok l hl, marks_eq l hl]
  simp only [Option.bind_some]
  cases okB l with
  | false => rfl
  | true =>
    rw [if_pos rfl, if_pos (by omega), if_pos (by omega), if_pos (by omega), rdOf_at false l i hi]
    simp

def cn : List Bool → Int
  | [] => 0
  | b :: l => (if b = true then 1 else 0) + cn l
theorem cn_bound (l : List Bool) : 0 ≤ cn l ∧ cn l ≤ l.length := by
  induction l with
  | nil => simp [cn]
  | cons b l ih =>
    simp only [cn, List.length_cons]
    split <;> omega
theorem reg_of (i : Nat) (h : i ≤ 1048576) : spec_RegionOf.f (i : Int) = some ((i / 16 : Nat) : Int) := by
  unfold spec_RegionOf.f
  rw [if_neg (by omega), tdiv_nn (by omega), w64 (by omega) (by omega)]
  exact congrArg some (by omega)
theorem spec_zero (l : List Bool) (r : Int) (hl : l.length ≤ 1048576) (hz : okB l = false ∨ ∀ i : Nat, i < l.length → ((i / 16 : Nat) : Int) ≠ r) (d : Nat) : ∀ (k i : Nat), i ≤ l.length → l.length - i = d → d < k →
    spec_MarkCount.l0 k l r 0 (i : Int) = some 0 := by
  induction d with
  | zero =>
    intro k i hi hd hk
    obtain ⟨k, rfl⟩ : ∃ m, k = m + 1 := ⟨k - 1, by omega⟩
    simp only [spec_MarkCount.l0]
    rw [if_neg (by omega)]
  | succ d ih =>
    intro k i hi hd hk
    obtain ⟨k, rfl⟩ : ∃ m, k = m + 1 := ⟨k - 1, by omega⟩
    have hn := ih k (i + 1) (by omega) (by omega) (by omega)
    simp only [spec_MarkCount.l0]
    rw [if_pos (by omega), reg_of i (by omega), spec_has l i hl (by omega), wnext i (by omega)]
    simp only [Option.bind_some]
    by_cases e : ((i / 16 : Nat) : Int) = r
    · rw [if_pos e]
      rcases hz with hz | hz
      · rw [hz, Bool.false_and, if_neg (by simp)]
        exact hn
      · exact absurd e (hz i (by omega))
    · rw [if_neg e]
      exact hn
theorem spec_seg (l : List Bool) (q : Nat) (hl : l.length ≤ 192) (hok : okB l = true) (hq : q * 16 + 16 ≤ l.length) (d : Nat) : ∀ (k i : Nat) (c : Int), i ≤ l.length → l.length - i = d → d < k → 0 ≤ c ∧ c ≤ i →
    spec_MarkCount.l0 k l (q : Int) c (i : Int) = some (c + cn ((l.take (q * 16 + 16)).drop (max i (q * 16)))) := by
  have hlt : (l.take (q * 16 + 16)).length = q * 16 + 16 := by simp; omega
  induction d with
  | zero =>
    intro k i c hi hd hk hc
    obtain ⟨k, rfl⟩ : ∃ m, k = m + 1 := ⟨k - 1, by omega⟩
    simp only [spec_MarkCount.l0]
    rw [if_neg (by omega), List.drop_of_length_le (by omega)]
    simp [cn]
  | succ d ih =>
    intro k i c hi hd hk hc
    obtain ⟨k, rfl⟩ : ∃ m, k = m + 1 := ⟨k - 1, by omega⟩
    have hn := ih k (i + 1) c (by omega) (by omega) (by omega) (by omega)
    have hn1 := ih k (i + 1) (c + 1) (by omega) (by omega) (by omega) (by omega)
    simp only [spec_MarkCount.l0]
    rw [if_pos (by omega), reg_of i (by omega), spec_has l i (by omega) (by omega), wnext i (by omega), hok, Bool.true_and]
    simp only [Option.bind_some]
    by_cases e : ((i / 16 : Nat) : Int) = (q : Int)
    · rw [if_pos e]
      have hd2 : (l.take (q * 16 + 16)).drop i = l[i] :: (l.take (q * 16 + 16)).drop (i + 1) := by
        rw [List.drop_eq_getElem_cons (by omega), List.getElem_take]
      rw [show max (i + 1) (q * 16) = i + 1 by omega] at hn hn1
      rw [show max i (q * 16) = i by omega, hd2]
      simp only [cn]
      by_cases hb : l[i] = true
      · rw [if_pos hb, if_pos hb, w64 (by omega) (by omega), hn1]
        exact congrArg some (by omega)
      · rw [if_neg hb, if_neg hb, hn]
        exact congrArg some (by omega)
    · rw [if_neg e, hn]
      by_cases g : i < q * 16
      · rw [show max (i + 1) (q * 16) = max i (q * 16) by omega]
      · rw [List.drop_of_length_le (by omega), List.drop_of_length_le (by omega)]
theorem impl_seg (s : List Bool) (hs : s.length ≤ 192) (d : Nat) : ∀ (k i : Nat) (c : Int), i ≤ s.length → s.length - i = d → d < k → 0 ≤ c ∧ c ≤ i →
    impl_MarkCount.l0 k c s (s.length : Int) (i : Int) = some (c + cn (s.drop i)) := by
  induction d with
  | zero =>
    intro k i c hi hd hk hc
    obtain ⟨k, rfl⟩ : ∃ m, k = m + 1 := ⟨k - 1, by omega⟩
    simp only [impl_MarkCount.l0]
    rw [if_neg (by omega), List.drop_of_length_le (by omega)]
    simp [cn]
  | succ d ih =>
    intro k i c hi hd hk hc
    obtain ⟨k, rfl⟩ : ∃ m, k = m + 1 := ⟨k - 1, by omega⟩
    simp only [impl_MarkCount.l0]
    rw [if_pos (by omega), if_pos (by omega), if_pos (by omega), rdOf_at false s i (by omega), wnext i (by omega), List.drop_eq_getElem_cons (by omega)]
    unfold impl_truth.f
    simp only [cn]
    by_cases hb : s[i] = true
    · rw [if_pos hb, if_pos hb]
      simp only [Option.bind_some]
      rw [w64 (by omega) (by omega), ih k (i + 1) (c + 1) (by omega) (by omega) (by omega) (by omega)]
      exact congrArg some (by omega)
    · rw [if_neg hb, if_neg hb]
      simp only [Option.bind_some]
      rw [w64 (by omega) (by omega), ih k (i + 1) (c + 0) (by omega) (by omega) (by omega) (by omega)]
      exact congrArg some (by omega)
def cntOf (l : List Bool) (r : Int) : Int := if okB l = true ∧ 0 ≤ r ∧ r * 16 + 16 ≤ (l.length : Int) then cn ((l.take (r.toNat * 16 + 16)).drop (r.toNat * 16)) else 0
theorem mark_count (l : List Bool) (r : Int) (hl : l.length ≤ 1048576) (hr : -9223372036854775808 ≤ r ∧ r ≤ 9223372036854775807) :
    ∃ n, (∀ K, 1048580 < K → spec_MarkCount.f K l r = some n) ∧ (∀ K, 1048580 < K → impl_MarkCount.f K l r = some n) ∧ n = cntOf l r := by
  unfold spec_MarkCount.f impl_MarkCount.f cntOf
  rw [marks_eq l hl]
  simp only [Option.bind_some]
  have none_of : ∀ K, 1048580 < K → impl_MarkCount.j0 K l r true = some 0 := by
    intro K hK
    obtain ⟨K, rfl⟩ : ∃ m, K = m + 1 := ⟨K - 1, by omega⟩
    simp only [impl_MarkCount.j0, if_true]
  cases hok : okB l with
  | false =>
    refine ⟨0, fun K hK => spec_zero l r hl (.inl hok) l.length K 0 (by omega) (by omega) (by omega), fun K hK => ?_, by simp⟩
    rw [if_neg (by simp)]
    exact none_of K hK
  | true =>
    have hk := of_decide_eq_true hok
    by_cases h0 : r < 0
    · refine ⟨0, fun K hK => spec_zero l r hl (.inr fun i hi => by omega) l.length K 0 (by omega) (by omega) (by omega), fun K hK => ?_, by rw [if_neg (by omega)]⟩
      rw [if_pos rfl, if_pos h0]
      exact none_of K hK
    by_cases h1 : r ≥ (l.length : Int) / 16
    · refine ⟨0, fun K hK => spec_zero l r hl (.inr fun i hi => by omega) l.length K 0 (by omega) (by omega) (by omega), fun K hK => ?_, by rw [if_neg (by omega)]⟩
      rw [if_pos rfl, if_neg h0, w64 (by omega) (by omega), decide_eq_true h1]
      exact none_of K hK
    · obtain ⟨q, rfl⟩ : ∃ q : Nat, r = (q : Int) := ⟨r.toNat, by omega⟩
      have hq : q * 16 + 16 ≤ l.length := by omega
      have hs := spec_seg l q (by omega) hok hq l.length
      have hlt : ((l.take (q * 16 + 16)).drop (q * 16)).length = 16 := by simp; omega
      have hi := impl_seg ((l.take (q * 16 + 16)).drop (q * 16)) (by omega) 16
      refine ⟨cn ((l.take (q * 16 + 16)).drop (q * 16)), fun K hK => ?_, fun K hK => ?_, ?_⟩
      · have := hs K 0 0 (by omega) (by omega) (by omega) (by omega)
        simpa using this
      · obtain ⟨K, rfl⟩ : ∃ m, K = m + 1 := ⟨K - 1, by omega⟩
        rw [if_pos rfl, if_neg h0, w64 (by omega) (by omega), decide_eq_false h1]
        simp only [impl_MarkCount.j0]
        rw [if_neg (by simp), w64 (x := (q : Int) * 16) (by omega) (by omega), w64 (x := (q : Int) + 1) (by omega) (by omega), w64 (by omega) (by omega), if_pos (by omega), if_pos (by omega), if_pos (by omega),
          show (((q : Int) + 1) * 16).toNat = q * 16 + 16 by omega, show ((q : Int) * 16).toNat = q * 16 by omega]
        have := hi K 0 0 (by omega) (by omega) (by omega) (by omega)
        simpa using this
      · rw [if_pos (by simp; omega), Int.toNat_natCast]

theorem FnExactMarkCount (l : List Bool) (a : Int) (_ : l.length ≤ maxLen ∧ ∀ x ∈ l, True) (ha : (Lit.int .i64 a).wf = true) : ∃ k, laws_FnExactMarkCount.f k l a = some true := by
  obtain ⟨K, hK⟩ : ∃ K, 1048580 < K := ⟨1048581, by omega⟩
  refine ⟨K, ?_⟩
  by_cases h : (l.length : Int) > 1048576
  · unfold laws_FnExactMarkCount.f
    rw [if_pos h]
  have hl : l.length ≤ 1048576 := by omega
  have hn : ¬ (l.length : Int) > 1048576 := h
  obtain ⟨r, h1, h2, _⟩ := mark_count l a hl (b64 ha)
  have h1 := h1 K hK
  have h2 := h2 K hK
  unfold laws_FnExactMarkCount.f
  repeat (first
    | (with_reducible refine st rfl ?_)
    | (with_reducible refine sf (neg_len _) ?_)
    | (with_reducible refine sf (bne_no _) ?_)
    | (with_reducible refine sf ff ?_)
    | (with_reducible refine sf ntt ?_)
    | (with_reducible refine sf hn ?_)
    | ((with_reducible refine sb (h1) ?_); try dsimp only)
    | ((with_reducible refine sb (h2) ?_); try dsimp only)
    | ((with_reducible refine sb (laws_toBoolS_eq _ hl _ ?_) ?_); omega; try dsimp only)
    | ((with_reducible refine sb (laws_eqBoolS_self _ hl _ ?_) ?_); omega; try dsimp only)
    | (with_reducible rfl))

end Go.Proofs.Ytpalgpgeicpaoaa.Pure
