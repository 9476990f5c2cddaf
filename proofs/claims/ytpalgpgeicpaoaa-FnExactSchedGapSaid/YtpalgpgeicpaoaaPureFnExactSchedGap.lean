/- SchedGap of the program answers as the reference does, at every slice of ints of at most 2^20 elements and every int, and leaves its argument alone. No condition. -/
import Derived.Test.YtpalgpgeicpaoaaPFnExactSchedGapx1
namespace Go.Proofs.Ytpalgpgeicpaoaa.Pure
open Go.RowKit Go.Proofs.Ytpalgpgeicpaoaa.PFnExactSchedGap Go.Proofs.YtpalgpgeicpaoaaW.PrintWords Go.Proofs.YtpalgpgeicpaoaaW.PrintLast
set_option linter.unusedVariables false
set_option linter.unusedSimpArgs false

theorem w64 {x : Int} (h0 : -9223372036854775808 ≤ x) (h1 : x ≤ 9223372036854775807) : wrap64 x = x := by
  unfold wrap64
  omega
theorem wnext (i : Nat) (h : i < 9223372036854775807) : wrap64 ((i : Int) + 1) = ((i + 1 : Nat) : Int) := by
  unfold wrap64
  omega
theorem rdOf_at {α : Type} (d : α) (l : List α) (i : Nat) (h : i < l.length) : rdOf d l (i : Int) = l[i] := by
  simp [rdOf, List.getD, h]
theorem rd_at (l : List Int) (i : Nat) (h : i < l.length) : rd l (i : Int) = l[i] := by
  simp [rd, List.getD, h]
theorem set_step {α : Type} (l m : List α) (i : Nat) (v : α) (hl : l.length = m.length) (hi : i < m.length) (hv : m[i]? = some v)
    (hp : ∀ j, j < i → l[j]? = m[j]?) : (l.set i v).length = m.length ∧ ∀ j, j < i + 1 → (l.set i v)[j]? = m[j]? := by
  refine ⟨by simp [hl], fun j hj => ?_⟩
  rw [List.getElem?_set]
  by_cases e : i = j
  · subst e
    rw [if_pos rfl, if_pos (by omega), hv]
  · rw [if_neg e]
    exact hp j (by omega)
theorem all_eq {α : Type} (l m : List α) (hl : l.length = m.length) (hp : ∀ j, j < m.length → l[j]? = m[j]?) : l = m := by
  apply List.ext_getElem?
  intro j
  by_cases hj : j < m.length
  · exact hp j hj
  · rw [List.getElem?_eq_none (by omega), List.getElem?_eq_none (by omega)]

theorem b64 {n : Int} (h : (Lit.int .i64 n).wf = true) : -9223372036854775808 ≤ n ∧ n ≤ 9223372036854775807 := by
  simp [Lit.wf, IntKind.min, IntKind.max, IntKind.signed, IntKind.bits] at h
  omega
theorem b8 {n : Int} (h : (Lit.int .u8 n).wf = true) : 0 ≤ n ∧ n ≤ 255 := by
  simp [Lit.wf, IntKind.min, IntKind.max, IntKind.signed, IntKind.bits] at h
  omega

theorem laws_toIntS_go (l : List Int) (hl : l.length ≤ 1048576) (d : Nat) : ∀ (k i : Nat) (acc : List Int), acc.length = l.length → i ≤ l.length → l.length - i = d → d < k →
    (∀ j, j < i → acc[j]? = l[j]?) → laws_toIntS.l0 k l acc (i : Int) = some l := by
  induction d with
  | zero =>
    intro k i acc ha hi hd hk hp
    obtain ⟨k, rfl⟩ : ∃ m, k = m + 1 := ⟨k - 1, by omega⟩
    simp only [laws_toIntS.l0]
    rw [if_neg (by omega)]
    exact congrArg some (all_eq acc l ha (fun j hj => hp j (by omega)))
  | succ d ih =>
    intro k i acc ha hi hd hk hp
    obtain ⟨k, rfl⟩ : ∃ m, k = m + 1 := ⟨k - 1, by omega⟩
    simp only [laws_toIntS.l0]
    rw [if_pos (by omega), if_pos (by omega), if_pos (by omega), wnext i (by omega), rd_at l i (by omega), Int.toNat_natCast]
    obtain ⟨h1, h2⟩ := set_step acc l i l[i] ha (by omega) (by simp) hp
    exact ih k (i + 1) _ h1 (by omega) (by omega) (by omega) h2
theorem laws_toIntS_eq (l : List Int) (hl : l.length ≤ 1048576) (k : Nat) (hk : 1048576 < k) : laws_toIntS.f k l = some l := by
  unfold laws_toIntS.f
  rw [if_pos (by omega), if_pos (by omega)]
  exact laws_toIntS_go l hl l.length k 0 _ (by simp) (by omega) (by omega) (by omega) (by intro j hj; omega)

theorem laws_eqIntS_go (l : List Int) (hl : l.length ≤ 1048576) (d : Nat) : ∀ (k i : Nat), i ≤ l.length → l.length - i = d → d < k → laws_eqIntS.l0 k l l (i : Int) = some true := by
  induction d with
  | zero =>
    intro k i hi hd hk
    obtain ⟨k, rfl⟩ : ∃ m, k = m + 1 := ⟨k - 1, by omega⟩
    simp only [laws_eqIntS.l0]
    rw [if_neg (by omega)]
  | succ d ih =>
    intro k i hi hd hk
    obtain ⟨k, rfl⟩ : ∃ m, k = m + 1 := ⟨k - 1, by omega⟩
    simp only [laws_eqIntS.l0]
    rw [if_pos (by omega), if_pos (by omega), if_pos (by omega), wnext i (by omega), if_pos trivial]
    exact ih k (i + 1) (by omega) (by omega) (by omega)
theorem laws_eqIntS_self (l : List Int) (hl : l.length ≤ 1048576) (k : Nat) (hk : 1048576 < k) : laws_eqIntS.f k l l = some true := by
  unfold laws_eqIntS.f
  rw [if_pos rfl]
  exact laws_eqIntS_go l hl l.length k 0 (by omega) (by omega) (by omega)

theorem neg_len (n : Nat) : ¬ ((1 : Int) + (n : Int) < 0) := by omega
theorem bne_no (b : Bool) : ¬ ((b != b) = true) := by simp
theorem ff : ¬ (false = true) := by simp
theorem ntt : ¬ ((!true) = true) := by simp
theorem sb {α β : Type} {o : Option α} {v : α} {f : α → Option β} {r : Option β} (h : o = some v) (k : f v = r) : o.bind f = r := by rw [h]; exact k
theorem st {α : Type} {c : Prop} [Decidable c] {a b r : α} (h : c) (k : a = r) : (if c then a else b) = r := by rw [if_pos h]; exact k
theorem sf {α : Type} {c : Prop} [Decidable c] {a b r : α} (h : ¬ c) (k : b = r) : (if c then a else b) = r := by rw [if_neg h]; exact k

def stp (who : Int) (s : Int × Int) (x : Int) : Int × Int := if x = who then (mx s.1 0, 0) else (mx s.1 (s.2 + 1), s.2 + 1)
def Fine (s : Int × Int) (n : Int) : Prop := 0 ≤ s.2 ∧ s.2 ≤ s.1 ∧ s.1 ≤ n
theorem stp_fine {who : Int} {s : Int × Int} {n : Int} (h : Fine s n) (x : Int) : Fine (stp who s x) (n + 1) ∧ s.1 ≤ (stp who s x).1 ∧ (stp who s x).1 ≤ s.1 + 1 := by
  obtain ⟨h0, h1, h2⟩ := h
  unfold stp Fine mx
  split <;> refine ⟨⟨?_, ?_, ?_⟩, ?_, ?_⟩ <;> (try split) <;> (try dsimp only) <;> omega
theorem fold_fine {who : Int} (l : List Int) : ∀ {s : Int × Int} {n : Int}, Fine s n → Fine (l.foldl (stp who) s) (n + (l.length : Int)) ∧ s.1 ≤ (l.foldl (stp who) s).1 ∧ (l.foldl (stp who) s).1 ≤ s.1 + (l.length : Int) := by
  induction l with
  | nil =>
    intro s n h
    exact ⟨by simpa using h, by simp, by simp⟩
  | cons x l ih =>
    intro s n h
    obtain ⟨h1, h2, h3⟩ := stp_fine (who := who) h x
    obtain ⟨g1, g2, g3⟩ := ih h1
    rw [List.foldl_cons, List.length_cons]
    refine ⟨?_, by omega, by push_cast; omega⟩
    have e : n + ((l.length + 1 : Nat) : Int) = n + 1 + (l.length : Int) := by push_cast; omega
    rw [e]
    exact g1
theorem drop_at (l : List Int) (i : Nat) (h : i < l.length) : l.drop i = l[i] :: l.drop (i + 1) := List.drop_eq_getElem_cons h
theorem impl_gap (l : List Int) (who : Int) (hl : l.length ≤ 1048576) (d : Nat) : ∀ (k i : Nat) (s : Int × Int), Fine s (i : Int) → i ≤ l.length → l.length - i = d → d < k →
    impl_SchedGap.l0 k who s.1 s.2 l (l.length : Int) (i : Int) = some ((l.drop i).foldl (stp who) s).1 := by
  induction d with
  | zero =>
    intro k i s hs hi hd hk
    obtain ⟨k, rfl⟩ : ∃ m, k = m + 1 := ⟨k - 1, by omega⟩
    simp only [impl_SchedGap.l0]
    rw [if_neg (by omega), List.drop_of_length_le (by omega)]
    rfl
  | succ d ih =>
    intro k i s hs hi hd hk
    obtain ⟨k, rfl⟩ : ∃ m, k = m + 1 := ⟨k - 1, by omega⟩
    have hw := ih k (i + 1) (stp who s l[i]) (by have := (stp_fine (who := who) hs l[i]).1; simpa using this) (by omega) (by omega) (by omega)
    obtain ⟨h0, h1, h2⟩ := hs
    simp only [impl_SchedGap.l0]
    rw [if_pos (by omega), if_pos (by omega), if_pos (by omega), wnext i (by omega), rd_at l i (by omega), drop_at l i (by omega), List.foldl_cons, w64 (by omega) (by omega), ← hw]
    unfold stp
    by_cases e : l[i] = who
    · rw [if_pos e, if_pos e]
    · rw [if_neg e, if_neg e]
theorem spec_gap (l : List Int) (who : Int) (hl : l.length ≤ 1048576) (d : Nat) : ∀ (k i : Nat) (s : Int × Int), Fine s (i : Int) → i ≤ l.length → l.length - i = d → d < k →
    spec_SchedGap.l0 k l who s.1 s.2 (i : Int) = some ((l.drop i).foldl (stp who) s).1 := by
  induction d with
  | zero =>
    intro k i s hs hi hd hk
    obtain ⟨k, rfl⟩ : ∃ m, k = m + 1 := ⟨k - 1, by omega⟩
    simp only [spec_SchedGap.l0]
    rw [if_neg (by omega), List.drop_of_length_le (by omega)]
    rfl
  | succ d ih =>
    intro k i s hs hi hd hk
    obtain ⟨k, rfl⟩ : ∃ m, k = m + 1 := ⟨k - 1, by omega⟩
    have hw := ih k (i + 1) (stp who s l[i]) (by have := (stp_fine (who := who) hs l[i]).1; simpa using this) (by omega) (by omega) (by omega)
    obtain ⟨h0, h1, h2⟩ := hs
    simp only [spec_SchedGap.l0]
    rw [if_pos (by omega), if_pos (by omega), wnext i (by omega), rd_at l i (by omega), drop_at l i (by omega), List.foldl_cons, w64 (x := s.2 + 1) (by omega) (by omega), ← hw]
    unfold stp mx
    by_cases e : l[i] = who
    · rw [if_pos e, if_pos e, if_neg (by omega)]
      simp only
      split
      · rw [show s.1 = 0 by omega]
      · rfl
    · rw [if_neg e, if_neg e]
      by_cases f : s.2 + 1 > s.1
      · rw [if_pos f]
        simp only
        split
        · rfl
        · omega
      · rw [if_neg f]
        simp only
        split
        · omega
        · rfl
theorem fine0 : Fine (0, 0) ((0 : Nat) : Int) := by
  unfold Fine
  simp
theorem impl_gap_eq (l : List Int) (who : Int) (hl : l.length ≤ 1048576) (k : Nat) (hk : 1048576 < k) : impl_SchedGap.f k l who = some (l.foldl (stp who) (0, 0)).1 := by
  unfold impl_SchedGap.f
  exact impl_gap l who hl l.length k 0 (0, 0) fine0 (by omega) (by omega) (by omega)
theorem spec_gap_eq (l : List Int) (who : Int) (hl : l.length ≤ 1048576) (k : Nat) (hk : 1048576 < k) : spec_SchedGap.f k l who = some (l.foldl (stp who) (0, 0)).1 := by
  unfold spec_SchedGap.f
  exact spec_gap l who hl l.length k 0 (0, 0) fine0 (by omega) (by omega) (by omega)

theorem FnExactSchedGap (l : List Int) (a : Int) (_ : l.length ≤ maxLen ∧ ∀ x ∈ l, (Lit.int .i64 x).wf = true) (_ : (Lit.int .i64 a).wf = true) : ∃ k, laws_FnExactSchedGap.f k l a = some true := by
  obtain ⟨K, hK⟩ : ∃ K, 1048576 < K := ⟨1048577, by omega⟩
  refine ⟨K, ?_⟩
  by_cases h : (l.length : Int) > 1048576
  · unfold laws_FnExactSchedGap.f
    rw [if_pos h]
  have hl : l.length ≤ 1048576 := by omega
  have hn : ¬ (l.length : Int) > 1048576 := h
  unfold laws_FnExactSchedGap.f
  repeat (first
    | (with_reducible refine st rfl ?_)
    | (with_reducible refine sf (neg_len _) ?_)
    | (with_reducible refine sf (bne_no _) ?_)
    | (with_reducible refine sf ff ?_)
    | (with_reducible refine sf ntt ?_)
    | (with_reducible refine sf hn ?_)
    | ((with_reducible refine sb (laws_toIntS_eq _ hl _ ?_) ?_); omega; try dsimp only)
    | ((with_reducible refine sb (laws_eqIntS_self _ hl _ ?_) ?_); omega; try dsimp only)
    | ((with_reducible refine sb (impl_gap_eq _ _ hl _ ?_) ?_); omega; try dsimp only)
    | ((with_reducible refine sb (spec_gap_eq _ _ hl _ ?_) ?_); omega; try dsimp only)
    | (with_reducible rfl))

end Go.Proofs.Ytpalgpgeicpaoaa.Pure
