/- MarkNext of the program answers as the reference does, at every slice of bools of at most 2^20 elements and all ints, and leaves its argument alone. No condition. -/
import Derived.Test.YtpalgpgeicpaoaaPFnExactMarkNextx1
namespace Go.Proofs.Ytpalgpgeicpaoaa.Pure
open Go.RowKit Go.Proofs.Ytpalgpgeicpaoaa.PFnExactMarkNext Go.Proofs.YtpalgpgeicpaoaaW.PrintWords Go.Proofs.YtpalgpgeicpaoaaW.PrintLast
set_option linter.unusedVariables false
set_option linter.unusedSimpArgs false

theorem w64 {x : Int} (h0 : -9223372036854775808 ≤ x) (h1 : x ≤ 9223372036854775807) : wrap64 x = x := by
  unfold wrap64
  omega
theorem wnext (i : Nat) (h : i < 9223372036854775807) : wrap64 ((i : Int) + 1) = ((i + 1 : Nat) : Int) := by
  unfold wrap64
  omega
theorem rdOf_at {α : Type} (d : α) (l : List α) (i : Nat) (h : i < l.length) : rdOf d l (i : Int) = l[i] := by
  simp [rdOf, List.getD, h]
theorem rd_at (l : List Int) (i : Nat) (h : i < l.length) : rd l (i : Int) = l[i] := by
  simp [rd, List.getD, h]
theorem set_step {α : Type} (l m : List α) (i : Nat) (v : α) (hl : l.length = m.length) (hi : i < m.length) (hv : m[i]? = some v)
    (hp : ∀ j, j < i → l[j]? = m[j]?) : (l.set i v).length = m.length ∧ ∀ j, j < i + 1 → (l.set i v)[j]? = m[j]? := by
  refine ⟨by simp [hl], fun j hj => ?_⟩
  rw [List.getElem?_set]
  by_cases e : i = j
  · subst e
    rw [if_pos rfl, if_pos (by omega), hv]
  · rw [if_neg e]
    exact hp j (by omega)
theorem all_eq {α : Type} (l m : List α) (hl : l.length = m.length) (hp : ∀ j, j < m.length → l[j]? = m[j]?) : l = m := by
  apply List.ext_getElem?
  intro j
  by_cases hj : j < m.length
  · exact hp j hj
  · rw [List.getElem?_eq_none (by omega), List.getElem?_eq_none (by omega)]

theorem b64 {n : Int} (h : (Lit.int .i64 n).wf = true) : -9223372036854775808 ≤ n ∧ n ≤ 9223372036854775807 := by
  simp [Lit.wf, IntKind.min, IntKind.max, IntKind.signed, IntKind.bits] at h
  omega
theorem b8 {n : Int} (h : (Lit.int .u8 n).wf = true) : 0 ≤ n ∧ n ≤ 255 := by
  simp [Lit.wf, IntKind.min, IntKind.max, IntKind.signed, IntKind.bits] at h
  omega

theorem laws_toBoolS_go (l : List Bool) (hl : l.length ≤ 1048576) (d : Nat) : ∀ (k i : Nat) (acc : List Bool), acc.length = l.length → i ≤ l.length → l.length - i = d → d < k →
    (∀ j, j < i → acc[j]? = l[j]?) → laws_toBoolS.l0 k l acc (i : Int) = some l := by
  induction d with
  | zero =>
    intro k i acc ha hi hd hk hp
    obtain ⟨k, rfl⟩ : ∃ m, k = m + 1 := ⟨k - 1, by omega⟩
    simp only [laws_toBoolS.l0]
    rw [if_neg (by omega)]
    exact congrArg some (all_eq acc l ha (fun j hj => hp j (by omega)))
  | succ d ih =>
    intro k i acc ha hi hd hk hp
    obtain ⟨k, rfl⟩ : ∃ m, k = m + 1 := ⟨k - 1, by omega⟩
    simp only [laws_toBoolS.l0]
    rw [if_pos (by omega), if_pos (by omega), if_pos (by omega), wnext i (by omega), rdOf_at false l i (by omega), Int.toNat_natCast]
    obtain ⟨h1, h2⟩ := set_step acc l i l[i] ha (by omega) (by simp) hp
    exact ih k (i + 1) _ h1 (by omega) (by omega) (by omega) h2
theorem laws_toBoolS_eq (l : List Bool) (hl : l.length ≤ 1048576) (k : Nat) (hk : 1048576 < k) : laws_toBoolS.f k l = some l := by
  unfold laws_toBoolS.f
  rw [if_pos (by omega), if_pos (by omega)]
  exact laws_toBoolS_go l hl l.length k 0 _ (by simp) (by omega) (by omega) (by omega) (by intro j hj; omega)

theorem laws_eqBoolS_go (l : List Bool) (hl : l.length ≤ 1048576) (d : Nat) : ∀ (k i : Nat), i ≤ l.length → l.length - i = d → d < k → laws_eqBoolS.l0 k l l (i : Int) = some true := by
  induction d with
  | zero =>
    intro k i hi hd hk
    obtain ⟨k, rfl⟩ : ∃ m, k = m + 1 := ⟨k - 1, by omega⟩
    simp only [laws_eqBoolS.l0]
    rw [if_neg (by omega)]
  | succ d ih =>
    intro k i hi hd hk
    obtain ⟨k, rfl⟩ : ∃ m, k = m + 1 := ⟨k - 1, by omega⟩
    simp only [laws_eqBoolS.l0]
    rw [if_pos (by omega), if_pos (by omega), if_pos (by omega), wnext i (by omega), if_neg (by simp)]
    exact ih k (i + 1) (by omega) (by omega) (by omega)
theorem laws_eqBoolS_self (l : List Bool) (hl : l.length ≤ 1048576) (k : Nat) (hk : 1048576 < k) : laws_eqBoolS.f k l l = some true := by
  unfold laws_eqBoolS.f
  rw [if_pos rfl]
  exact laws_eqBoolS_go l hl l.length k 0 (by omega) (by omega) (by omega)

theorem words_of (n : Nat) : impl_WordsOk.f (List.replicate n 0) = if (n : Int) % 16 = 0 then (if (n : Int) ≥ 32 then some (decide ((n : Int) ≤ 192)) else some false) else some false := by
  unfold impl_WordsOk.f
  rw [List.length_replicate]
theorem marks_ok (l : List Bool) (hl : l.length ≤ 1048576) : spec_l10Ok.f l = impl_marksOk.f l := by
  unfold impl_marksOk.f
  rw [if_pos (by omega), if_pos (by omega), Int.toNat_natCast, words_of l.length]
  unfold spec_l10Ok.f
  by_cases h : ((l.length : Int) % 16) = 0
  · rw [if_pos h, if_pos h, w64 (by omega) (by omega)]
    by_cases h2 : (l.length : Int) / 16 ≥ 2
    · rw [if_pos h2, if_pos (by omega)]
      simp only [Option.bind_some]
      congr 1
      exact decide_eq_decide.2 (by omega)
    · rw [if_neg h2, if_neg (by omega)]
      rfl
  · rw [if_neg h, if_neg h]
    rfl
theorem marks_some (l : List Bool) (hl : l.length ≤ 1048576) : ∃ b, impl_marksOk.f l = some b := by
  rw [← marks_ok l hl]
  unfold spec_l10Ok.f
  split
  · split <;> exact ⟨_, rfl⟩
  · exact ⟨_, rfl⟩

theorem neg_len (n : Nat) : ¬ ((1 : Int) + (n : Int) < 0) := by omega
theorem bne_no (b : Bool) : ¬ ((b != b) = true) := by simp
theorem ff : ¬ (false = true) := by simp
theorem ntt : ¬ ((!true) = true) := by simp
theorem sb {α β : Type} {o : Option α} {v : α} {f : α → Option β} {r : Option β} (h : o = some v) (k : f v = r) : o.bind f = r := by rw [h]; exact k
theorem st {α : Type} {c : Prop} [Decidable c] {a b r : α} (h : c) (k : a = r) : (if c then a else b) = r := by rw [if_pos h]; exact k
theorem sf {α : Type} {c : Prop} [Decidable c] {a b r : α} (h : ¬ c) (k : b = r) : (if c then a else b) = r := by rw [if_neg h]; exact k

theorem next_both (l : List Bool) (f t : Int) (hl : l.length ≤ 1048576) (d : Nat) : ∀ (i : Nat), i ≤ l.length → l.length - i = d →
    ∃ r, (∀ k, d < k → spec_MarkNext.l0 k l f t (i : Int) = some r) ∧
      ∀ k : Nat, 0 < k → (l.length : Int) - mx (i : Int) (mx f 0) < k → impl_MarkNext.l0 k l t (mx (i : Int) (mx f 0)) = some r := by
  induction d with
  | zero =>
    intro i hi hd
    refine ⟨-1, fun k hk => ?_, fun k hk hk2 => ?_⟩
    · obtain ⟨k, rfl⟩ : ∃ m, k = m + 1 := ⟨k - 1, by omega⟩
      simp only [spec_MarkNext.l0]
      rw [if_neg (by omega)]
    · obtain ⟨k, rfl⟩ : ∃ m, k = m + 1 := ⟨k - 1, by omega⟩
      simp only [impl_MarkNext.l0]
      rw [if_neg (by unfold mx mn; repeat' split <;> omega)]
  | succ d ih =>
    intro i hi hd
    obtain ⟨r, h1, h2⟩ := ih (i + 1) (by omega) (by omega)
    have hlt : (i : Int) < (l.length : Int) := by omega
    by_cases hf : (i : Int) < f
    · have e : mx ((i : Nat) : Int) (mx f 0) = mx ((i + 1 : Nat) : Int) (mx f 0) := by unfold mx; repeat' split <;> omega
      refine ⟨r, fun k hk => ?_, fun k hk hk2 => ?_⟩
      · obtain ⟨k, rfl⟩ : ∃ m, k = m + 1 := ⟨k - 1, by omega⟩
        simp only [spec_MarkNext.l0]
        rw [if_pos hlt, if_neg (by omega), wnext i (by omega)]
        exact h1 k (by omega)
      · rw [e] at hk2 ⊢
        exact h2 k hk hk2
    have e1 : mx ((i : Nat) : Int) (mx f 0) = (i : Int) := by unfold mx; repeat' split <;> omega
    have e2 : mx ((i + 1 : Nat) : Int) (mx f 0) = ((i + 1 : Nat) : Int) := by unfold mx; repeat' split <;> omega
    rw [e1]
    rw [e2] at h2
    by_cases ht : (i : Int) < t
    · have hm : (i : Int) < mn t (l.length : Int) := by unfold mn; split <;> omega
      by_cases hb : l[i]'(by omega) = true
      · refine ⟨(i : Int), fun k hk => ?_, fun k hk hk2 => ?_⟩
        · obtain ⟨k, rfl⟩ : ∃ m, k = m + 1 := ⟨k - 1, by omega⟩
          simp only [spec_MarkNext.l0]
          rw [if_pos hlt, if_pos (by omega), if_pos ht, if_pos (by omega), rdOf_at false l i (by omega), if_pos hb]
        · obtain ⟨k, rfl⟩ : ∃ m, k = m + 1 := ⟨k - 1, by omega⟩
          simp only [impl_MarkNext.l0]
          rw [if_pos hm, if_pos (by omega), if_pos hlt, rdOf_at false l i (by omega), if_pos hb]
      · refine ⟨r, fun k hk => ?_, fun k hk hk2 => ?_⟩
        · obtain ⟨k, rfl⟩ : ∃ m, k = m + 1 := ⟨k - 1, by omega⟩
          simp only [spec_MarkNext.l0]
          rw [if_pos hlt, if_pos (by omega), if_pos ht, if_pos (by omega), rdOf_at false l i (by omega), if_neg hb, wnext i (by omega)]
          exact h1 k (by omega)
        · obtain ⟨k, rfl⟩ : ∃ m, k = m + 1 := ⟨k - 1, by omega⟩
          simp only [impl_MarkNext.l0]
          rw [if_pos hm, if_pos (by omega), if_pos hlt, rdOf_at false l i (by omega), if_neg hb, wnext i (by omega)]
          exact h2 k (by omega) (by omega)
    · have hm : ¬ (i : Int) < mn t (l.length : Int) := by unfold mn; split <;> omega
      have hr : r = -1 := by
        have hm2 : ¬ ((i + 1 : Nat) : Int) < mn t (l.length : Int) := by unfold mn; split <;> omega
        have := h2 (l.length + 1) (by omega) (by omega)
        simp only [impl_MarkNext.l0] at this
        rw [if_neg hm2] at this
        exact (Option.some.inj this).symm
      subst hr
      refine ⟨-1, fun k hk => ?_, fun k hk hk2 => ?_⟩
      · obtain ⟨k, rfl⟩ : ∃ m, k = m + 1 := ⟨k - 1, by omega⟩
        simp only [spec_MarkNext.l0]
        rw [if_pos hlt, if_pos (by omega), if_neg ht, wnext i (by omega)]
        exact h1 k (by omega)
      · obtain ⟨k, rfl⟩ : ∃ m, k = m + 1 := ⟨k - 1, by omega⟩
        simp only [impl_MarkNext.l0]
        rw [if_neg hm]
theorem mark_next (l : List Bool) (f t : Int) (hl : l.length ≤ 1048576) (K : Nat) (hK : 1048576 < K) : ∃ r, spec_MarkNext.f K l f t = some r ∧ impl_MarkNext.f K l f t = some r := by
  unfold spec_MarkNext.f impl_MarkNext.f
  rw [marks_ok l hl]
  obtain ⟨b, hb⟩ := marks_some l hl
  rw [hb]
  simp only [Option.bind_some]
  cases b with
  | false => exact ⟨-1, rfl, rfl⟩
  | true =>
    rw [if_pos rfl, if_pos rfl]
    obtain ⟨r, h1, h2⟩ := next_both l f t hl l.length 0 (by omega) (by omega)
    have e : mx ((0 : Nat) : Int) (mx f 0) = mx f 0 := by unfold mx; repeat' split <;> omega
    rw [e] at h2
    exact ⟨r, h1 K (by omega), h2 K (by omega) (by unfold mx; repeat' split <;> omega)⟩

theorem FnExactMarkNext (l : List Bool) (a b : Int) (_ : l.length ≤ maxLen ∧ ∀ x ∈ l, True) (_ : (Lit.int .i64 a).wf = true) (_ : (Lit.int .i64 b).wf = true) : ∃ k, laws_FnExactMarkNext.f k l a b = some true := by
  obtain ⟨K, hK⟩ : ∃ K, 1048576 < K := ⟨1048577, by omega⟩
  refine ⟨K, ?_⟩
  by_cases h : (l.length : Int) > 1048576
  · unfold laws_FnExactMarkNext.f
    rw [if_pos h]
  have hl : l.length ≤ 1048576 := by omega
  have hn : ¬ (l.length : Int) > 1048576 := h
  obtain ⟨r, h1, h2⟩ := mark_next l a b hl K hK
  unfold laws_FnExactMarkNext.f
  repeat (first
    | (with_reducible refine st rfl ?_)
    | (with_reducible refine sf (neg_len _) ?_)
    | (with_reducible refine sf (bne_no _) ?_)
    | (with_reducible refine sf ff ?_)
    | (with_reducible refine sf ntt ?_)
    | (with_reducible refine sf hn ?_)
    | ((with_reducible refine sb (laws_toBoolS_eq _ hl _ ?_) ?_); omega; try dsimp only)
    | ((with_reducible refine sb (laws_eqBoolS_self _ hl _ ?_) ?_); omega; try dsimp only)
    | ((with_reducible refine sb (h1) ?_); try dsimp only)
    | ((with_reducible refine sb (h2) ?_); try dsimp only)
    | (with_reducible rfl))

end Go.Proofs.Ytpalgpgeicpaoaa.Pure
