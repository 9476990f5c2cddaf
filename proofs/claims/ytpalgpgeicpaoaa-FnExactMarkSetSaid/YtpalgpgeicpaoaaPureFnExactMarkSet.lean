/- MarkSet of the program answers as the reference does, at every slice of bools of at most 2^20 elements and every int, leaves its argument alone, and answers with new memory each time. No condition. -/
import Derived.Test.YtpalgpgeicpaoaaPFnExactMarkSetx2
namespace Go.Proofs.Ytpalgpgeicpaoaa.Pure
open Go.RowKit Go.Proofs.Ytpalgpgeicpaoaa.PFnExactMarkSet Go.Proofs.YtpalgpgeicpaoaaW.PrintWords Go.Proofs.YtpalgpgeicpaoaaW.PrintLast
set_option linter.unusedVariables false
set_option linter.unusedSimpArgs false

theorem w64 {x : Int} (h0 : -9223372036854775808 ≤ x) (h1 : x ≤ 9223372036854775807) : wrap64 x = x := by
  unfold wrap64
  omega
theorem wnext (i : Nat) (h : i < 9223372036854775807) : wrap64 ((i : Int) + 1) = ((i + 1 : Nat) : Int) := by
  unfold wrap64
  omega
theorem rdOf_at {α : Type} (d : α) (l : List α) (i : Nat) (h : i < l.length) : rdOf d l (i : Int) = l[i] := by
  simp [rdOf, List.getD, h]
theorem rd_at (l : List Int) (i : Nat) (h : i < l.length) : rd l (i : Int) = l[i] := by
  simp [rd, List.getD, h]
theorem set_step {α : Type} (l m : List α) (i : Nat) (v : α) (hl : l.length = m.length) (hi : i < m.length) (hv : m[i]? = some v)
    (hp : ∀ j, j < i → l[j]? = m[j]?) : (l.set i v).length = m.length ∧ ∀ j, j < i + 1 → (l.set i v)[j]? = m[j]? := by
  refine ⟨by simp [hl], fun j hj => ?_⟩
  rw [List.getElem?_set]
  by_cases e : i = j
  · subst e
    rw [if_pos rfl, if_pos (by omega), hv]
  · rw [if_neg e]
    exact hp j (by omega)
theorem all_eq {α : Type} (l m : List α) (hl : l.length = m.length) (hp : ∀ j, j < m.length → l[j]? = m[j]?) : l = m := by
  apply List.ext_getElem?
  intro j
  by_cases hj : j < m.length
  · exact hp j hj
  · rw [List.getElem?_eq_none (by omega), List.getElem?_eq_none (by omega)]

theorem b64 {n : Int} (h : (Lit.int .i64 n).wf = true) : -9223372036854775808 ≤ n ∧ n ≤ 9223372036854775807 := by
  simp [Lit.wf, IntKind.min, IntKind.max, IntKind.signed, IntKind.bits] at h
  omega
theorem b8 {n : Int} (h : (Lit.int .u8 n).wf = true) : 0 ≤ n ∧ n ≤ 255 := by
  simp [Lit.wf, IntKind.min, IntKind.max, IntKind.signed, IntKind.bits] at h
  omega

theorem laws_toBoolS_go (l : List Bool) (hl : l.length ≤ 1048576) (d : Nat) : ∀ (k i : Nat) (acc : List Bool), acc.length = l.length → i ≤ l.length → l.length - i = d → d < k →
    (∀ j, j < i → acc[j]? = l[j]?) → laws_toBoolS.l0 k l acc (i : Int) = some l := by
  induction d with
  | zero =>
    intro k i acc ha hi hd hk hp
    obtain ⟨k, rfl⟩ : ∃ m, k = m + 1 := ⟨k - 1, by omega⟩
    simp only [laws_toBoolS.l0]
    rw [if_neg (by omega)]
    exact congrArg some (all_eq acc l ha (fun j hj => hp j (by omega)))
  | succ d ih =>
    intro k i acc ha hi hd hk hp
    obtain ⟨k, rfl⟩ : ∃ m, k = m + 1 := ⟨k - 1, by omega⟩
    simp only [laws_toBoolS.l0]
    rw [if_pos (by omega), if_pos (by omega), if_pos (by omega), wnext i (by omega), rdOf_at false l i (by omega), Int.toNat_natCast]
    obtain ⟨h1, h2⟩ := set_step acc l i l[i] ha (by omega) (by simp) hp
    exact ih k (i + 1) _ h1 (by omega) (by omega) (by omega) h2
theorem laws_toBoolS_eq (l : List Bool) (hl : l.length ≤ 1048576) (k : Nat) (hk : 1048576 < k) : laws_toBoolS.f k l = some l := by
  unfold laws_toBoolS.f
  rw [if_pos (by omega), if_pos (by omega)]
  exact laws_toBoolS_go l hl l.length k 0 _ (by simp) (by omega) (by omega) (by omega) (by intro j hj; omega)

theorem laws_eqBoolS_go (l : List Bool) (hl : l.length ≤ 1048576) (d : Nat) : ∀ (k i : Nat), i ≤ l.length → l.length - i = d → d < k → laws_eqBoolS.l0 k l l (i : Int) = some true := by
  induction d with
  | zero =>
    intro k i hi hd hk
    obtain ⟨k, rfl⟩ : ∃ m, k = m + 1 := ⟨k - 1, by omega⟩
    simp only [laws_eqBoolS.l0]
    rw [if_neg (by omega)]
  | succ d ih =>
    intro k i hi hd hk
    obtain ⟨k, rfl⟩ : ∃ m, k = m + 1 := ⟨k - 1, by omega⟩
    simp only [laws_eqBoolS.l0]
    rw [if_pos (by omega), if_pos (by omega), if_pos (by omega), wnext i (by omega), if_neg (by simp)]
    exact ih k (i + 1) (by omega) (by omega) (by omega)
theorem laws_eqBoolS_self (l : List Bool) (hl : l.length ≤ 1048576) (k : Nat) (hk : 1048576 < k) : laws_eqBoolS.f k l l = some true := by
  unfold laws_eqBoolS.f
  rw [if_pos rfl]
  exact laws_eqBoolS_go l hl l.length k 0 (by omega) (by omega) (by omega)

def laws_markBoolS_list (l : List Bool) (n : Int) : List Bool := (List.range l.length).map fun j : Nat => (fun m : Int => Int.tmod m 3 == 0) (n + (j : Int))
theorem laws_markBoolS_list_length (l : List Bool) (n : Int) : (laws_markBoolS_list l n).length = l.length := by simp [laws_markBoolS_list]
theorem laws_markBoolS_list_at (l : List Bool) (n : Int) (i : Nat) (h : i < l.length) : (laws_markBoolS_list l n)[i]? = some ((fun m : Int => Int.tmod m 3 == 0) (n + (i : Int))) := by simp [laws_markBoolS_list, h]
theorem laws_markBoolS_go (l : List Bool) (n : Int) (hn : 0 ≤ n ∧ n ≤ 4611686018427387904) (hl : l.length ≤ 1048576) (d : Nat) : ∀ (k i : Nat) (acc : List Bool), acc.length = (laws_markBoolS_list l n).length → i ≤ l.length → l.length - i = d → d < k →
    (∀ j, j < i → acc[j]? = (laws_markBoolS_list l n)[j]?) → laws_markBoolS.l0 k acc (n + (i : Int)) (i : Int) = some (n + (l.length : Int), laws_markBoolS_list l n) := by
  induction d with
  | zero =>
    intro k i acc ha hi hd hk hp
    obtain ⟨k, rfl⟩ : ∃ m, k = m + 1 := ⟨k - 1, by omega⟩
    have hL := laws_markBoolS_list_length l n
    simp only [laws_markBoolS.l0]
    rw [if_neg (by omega), all_eq acc (laws_markBoolS_list l n) ha (fun j hj => hp j (by omega)), show i = l.length by omega]
  | succ d ih =>
    intro k i acc ha hi hd hk hp
    obtain ⟨k, rfl⟩ : ∃ m, k = m + 1 := ⟨k - 1, by omega⟩
    have hL := laws_markBoolS_list_length l n
    simp only [laws_markBoolS.l0]
    rw [if_pos (by omega), if_pos (by omega), wnext i (by omega), Int.toNat_natCast, w64 (by omega) (by omega), show n + (i : Int) + 1 = n + ((i + 1 : Nat) : Int) by omega]
    obtain ⟨h1, h2⟩ := set_step acc (laws_markBoolS_list l n) i _ ha (by omega) (laws_markBoolS_list_at l n i (by omega)) hp
    exact ih k (i + 1) _ h1 (by omega) (by omega) (by omega) h2
theorem laws_markBoolS_eq (l : List Bool) (n : Int) (hn : 0 ≤ n ∧ n ≤ 4611686018427387904) (hl : l.length ≤ 1048576) (k : Nat) (hk : 1048576 < k) : laws_markBoolS.f k l n = some (n + (l.length : Int), laws_markBoolS_list l n) := by
  have hL := laws_markBoolS_list_length l n
  have h := laws_markBoolS_go l n hn hl l.length k 0 l (by omega) (by omega) (by omega) (by omega) (by intro j hj; omega)
  unfold laws_markBoolS.f
  simpa using h

theorem laws_heldBoolS_go (l : List Bool) (n : Int) (hn : 0 ≤ n ∧ n ≤ 4611686018427387904) (hl : l.length ≤ 1048576) (d : Nat) : ∀ (k i : Nat), i ≤ l.length → l.length - i = d → d < k →
    laws_heldBoolS.l0 k (laws_markBoolS_list l n) (n + (i : Int)) (i : Int) = some (n + (l.length : Int)) := by
  induction d with
  | zero =>
    intro k i hi hd hk
    obtain ⟨k, rfl⟩ : ∃ m, k = m + 1 := ⟨k - 1, by omega⟩
    have hL := laws_markBoolS_list_length l n
    simp only [laws_heldBoolS.l0]
    rw [if_neg (by omega), show i = l.length by omega]
  | succ d ih =>
    intro k i hi hd hk
    obtain ⟨k, rfl⟩ : ∃ m, k = m + 1 := ⟨k - 1, by omega⟩
    have hL := laws_markBoolS_list_length l n
    have hv : (laws_markBoolS_list l n)[i] = (fun m : Int => Int.tmod m 3 == 0) (n + (i : Int)) := by simp [laws_markBoolS_list]
    simp only [laws_heldBoolS.l0]
    rw [if_pos (by omega), if_pos (by omega), rdOf_at false (laws_markBoolS_list l n) i (by omega), hv, if_neg (by simp), wnext i (by omega), w64 (by omega) (by omega), show n + (i : Int) + 1 = n + ((i + 1 : Nat) : Int) by omega]
    exact ih k (i + 1) (by omega) (by omega) (by omega)
theorem laws_heldBoolS_eq (l : List Bool) (n : Int) (hn : 0 ≤ n ∧ n ≤ 4611686018427387904) (hl : l.length ≤ 1048576) (k : Nat) (hk : 1048576 < k) : laws_heldBoolS.f k (laws_markBoolS_list l n) n = some (n + (l.length : Int)) := by
  have h := laws_heldBoolS_go l n hn hl l.length k 0 (by omega) (by omega) (by omega)
  unfold laws_heldBoolS.f
  simpa using h

theorem neg_len (n : Nat) : ¬ ((1 : Int) + (n : Int) < 0) := by omega
theorem bne_no (b : Bool) : ¬ ((b != b) = true) := by simp
theorem ff : ¬ (false = true) := by simp
theorem ntt : ¬ ((!true) = true) := by simp
theorem sb {α β : Type} {o : Option α} {v : α} {f : α → Option β} {r : Option β} (h : o = some v) (k : f v = r) : o.bind f = r := by rw [h]; exact k
theorem st {α : Type} {c : Prop} [Decidable c] {a b r : α} (h : c) (k : a = r) : (if c then a else b) = r := by rw [if_pos h]; exact k
theorem sf {α : Type} {c : Prop} [Decidable c] {a b r : α} (h : ¬ c) (k : b = r) : (if c then a else b) = r := by rw [if_neg h]; exact k

theorem words_of (n : Nat) : impl_WordsOk.f (List.replicate n 0) = if (n : Int) % 16 = 0 then (if (n : Int) ≥ 32 then some (decide ((n : Int) ≤ 192)) else some false) else some false := by
  unfold impl_WordsOk.f
  rw [List.length_replicate]
theorem marks_ok (l : List Bool) (hl : l.length ≤ 1048576) : spec_l10Ok.f l = impl_marksOk.f l := by
  unfold impl_marksOk.f
  rw [if_pos (by omega), if_pos (by omega), Int.toNat_natCast, words_of l.length]
  unfold spec_l10Ok.f
  by_cases h : ((l.length : Int) % 16) = 0
  · rw [if_pos h, if_pos h, w64 (by omega) (by omega)]
    by_cases h2 : (l.length : Int) / 16 ≥ 2
    · rw [if_pos h2, if_pos (by omega)]
      simp only [Option.bind_some]
      congr 1
      exact decide_eq_decide.2 (by omega)
    · rw [if_neg h2, if_neg (by omega)]
      rfl
  · rw [if_neg h, if_neg h]
    rfl
theorem marks_some (l : List Bool) (hl : l.length ≤ 1048576) : ∃ b, impl_marksOk.f l = some b := by
  rw [← marks_ok l hl]
  unfold spec_l10Ok.f
  split
  · split <;> exact ⟨_, rfl⟩
  · exact ⟨_, rfl⟩

theorem mark_set (l : List Bool) (a : Int) (hl : l.length ≤ 1048576) : ∃ r : List Bool × Bool, spec_MarkSet.f l a = some r ∧ impl_MarkSet.f l a = some r ∧ r.1.length ≤ 1048576 := by
  have e : spec_MarkSet.f l a = impl_MarkSet.f l a := by
    unfold spec_MarkSet.f impl_MarkSet.f
    rw [marks_ok l hl]
  rw [e]
  unfold impl_MarkSet.f
  obtain ⟨b, hb⟩ := marks_some l hl
  rw [hb]
  simp only [Option.bind_some, List.nil_append, List.length_nil]
  cases b with
  | false => exact ⟨_, rfl, rfl, by simp⟩
  | true =>
    rw [if_pos rfl]
    by_cases h0 : a < 0
    · rw [if_pos h0]
      exact ⟨_, rfl, rfl, by simp⟩
    by_cases h1 : a ≥ (l.length : Int)
    · rw [if_neg h0, if_pos h1]
      exact ⟨_, rfl, rfl, by simp⟩
    rw [if_neg h0, if_neg h1, if_pos (by omega), if_pos (by omega), if_pos (by omega), if_pos (by omega)]
    exact ⟨_, rfl, rfl, by simpa using hl⟩
theorem FnExactMarkSet (l : List Bool) (a : Int) (_ : l.length ≤ maxLen ∧ ∀ x ∈ l, True) (_ : (Lit.int .i64 a).wf = true) : ∃ k, laws_FnExactMarkSet.f k l a = some true := by
  obtain ⟨K, hK⟩ : ∃ K, 1048576 < K := ⟨1048577, by omega⟩
  refine ⟨K + 3, ?_⟩
  by_cases h : (l.length : Int) > 1048576
  · unfold laws_FnExactMarkSet.f
    rw [if_pos h]
  have hl : l.length ≤ 1048576 := by omega
  have hn : ¬ (l.length : Int) > 1048576 := h
  obtain ⟨r, h1, h2, hr⟩ := mark_set l a hl
  unfold laws_FnExactMarkSet.f
  repeat (first
    | (with_reducible refine st rfl ?_)
    | (with_reducible refine sf (neg_len _) ?_)
    | (with_reducible refine sf (bne_no _) ?_)
    | (with_reducible refine sf ff ?_)
    | (with_reducible refine sf ntt ?_)
    | (with_reducible refine sf hn ?_)
    | ((with_reducible refine sb (h1) ?_); try dsimp only)
    | ((with_reducible refine sb (h2) ?_); try dsimp only)
    | ((with_reducible refine sb (laws_toBoolS_eq _ hl _ ?_) ?_); omega; try dsimp only)
    | ((with_reducible refine sb (laws_eqBoolS_self _ hl _ ?_) ?_); omega; try dsimp only)
    | ((with_reducible refine sb (laws_eqBoolS_self _ hr _ ?_) ?_); omega; try dsimp only)
    | ((with_reducible refine sb (laws_markBoolS_eq _ 1 ?_ hl _ ?_) ?_); omega; omega; try dsimp only)
    | ((with_reducible refine sb (laws_markBoolS_eq _ 1 ?_ hr _ ?_) ?_); omega; omega; try dsimp only)
    | ((with_reducible refine sb (laws_heldBoolS_eq _ 1 ?_ hr _ ?_) ?_); omega; omega; try dsimp only)
    | rw [laws_FnExactMarkSet.j0]
    | rw [laws_FnExactMarkSet.j1]
    | rw [laws_FnExactMarkSet.j2]
    | (with_reducible rfl))

end Go.Proofs.Ytpalgpgeicpaoaa.Pure
