/- StoryOk of the program answers as the reference does, at every config, programs and picks of at most 2^20 elements in all, and leaves its arguments alone. No condition. -/
import Derived.Test.YtnkcoooifjjmbaaQFnExactStoryOkx4
namespace Go.Proofs.Ytnkcoooifjjmbaa.Pure
open Go.RowKit Go.Proofs.Ytnkcoooifjjmbaa.QFnExactStoryOk Go.Proofs.YtnkcoooifjjmbaaW.PrintWords Go.Proofs.YtnkcoooifjjmbaaW.PrintLast Go.Proofs.YtnkcoooifjjmbaaW.PrintMore
set_option linter.unusedVariables false
set_option linter.unusedSimpArgs false

theorem w64 {x : Int} (h0 : -9223372036854775808 ≤ x) (h1 : x ≤ 9223372036854775807) : wrap64 x = x := by
  unfold wrap64
  omega
theorem wnext (i : Nat) (h : i < 9223372036854775807) : wrap64 ((i : Int) + 1) = ((i + 1 : Nat) : Int) := by
  unfold wrap64
  omega
theorem rdOf_at {α : Type} (d : α) (l : List α) (i : Nat) (h : i < l.length) : rdOf d l (i : Int) = l[i] := by
  simp [rdOf, List.getD, h]
theorem rd_at (l : List Int) (i : Nat) (h : i < l.length) : rd l (i : Int) = l[i] := by
  simp [rd, List.getD, h]
theorem set_step {α : Type} (l m : List α) (i : Nat) (v : α) (hl : l.length = m.length) (hi : i < m.length) (hv : m[i]? = some v)
    (hp : ∀ j, j < i → l[j]? = m[j]?) : (l.set i v).length = m.length ∧ ∀ j, j < i + 1 → (l.set i v)[j]? = m[j]? := by
  refine ⟨by simp [hl], fun j hj => ?_⟩
  rw [List.getElem?_set]
  by_cases e : i = j
  · subst e
    rw [if_pos rfl, if_pos (by omega), hv]
  · rw [if_neg e]
    exact hp j (by omega)
theorem all_eq {α : Type} (l m : List α) (hl : l.length = m.length) (hp : ∀ j, j < m.length → l[j]? = m[j]?) : l = m := by
  apply List.ext_getElem?
  intro j
  by_cases hj : j < m.length
  · exact hp j hj
  · rw [List.getElem?_eq_none (by omega), List.getElem?_eq_none (by omega)]

theorem b64 {n : Int} (h : (Lit.int .i64 n).wf = true) : -9223372036854775808 ≤ n ∧ n ≤ 9223372036854775807 := by
  simp [Lit.wf, IntKind.min, IntKind.max, IntKind.signed, IntKind.bits] at h
  omega
theorem b8 {n : Int} (h : (Lit.int .u8 n).wf = true) : 0 ≤ n ∧ n ≤ 255 := by
  simp [Lit.wf, IntKind.min, IntKind.max, IntKind.signed, IntKind.bits] at h
  omega

theorem laws_toIntS_go (l : List Int) (hl : l.length ≤ 1048576) (d : Nat) : ∀ (k i : Nat) (acc : List Int), acc.length = l.length → i ≤ l.length → l.length - i = d → d < k →
    (∀ j, j < i → acc[j]? = l[j]?) → laws_toIntS.l0 k l acc (i : Int) = some l := by
  induction d with
  | zero =>
    intro k i acc ha hi hd hk hp
    obtain ⟨k, rfl⟩ : ∃ m, k = m + 1 := ⟨k - 1, by omega⟩
    simp only [laws_toIntS.l0]
    rw [if_neg (by omega)]
    exact congrArg some (all_eq acc l ha (fun j hj => hp j (by omega)))
  | succ d ih =>
    intro k i acc ha hi hd hk hp
    obtain ⟨k, rfl⟩ : ∃ m, k = m + 1 := ⟨k - 1, by omega⟩
    simp only [laws_toIntS.l0]
    rw [if_pos (by omega), if_pos (by omega), if_pos (by omega), wnext i (by omega), rd_at l i (by omega), Int.toNat_natCast]
    obtain ⟨h1, h2⟩ := set_step acc l i l[i] ha (by omega) (by simp) hp
    exact ih k (i + 1) _ h1 (by omega) (by omega) (by omega) h2
theorem laws_toIntS_eq (l : List Int) (hl : l.length ≤ 1048576) (k : Nat) (hk : 1048576 < k) : laws_toIntS.f k l = some l := by
  unfold laws_toIntS.f
  rw [if_pos (by omega), if_pos (by omega)]
  exact laws_toIntS_go l hl l.length k 0 _ (by simp) (by omega) (by omega) (by omega) (by intro j hj; omega)

theorem laws_eqIntS_go (l : List Int) (hl : l.length ≤ 1048576) (d : Nat) : ∀ (k i : Nat), i ≤ l.length → l.length - i = d → d < k → laws_eqIntS.l0 k l l (i : Int) = some true := by
  induction d with
  | zero =>
    intro k i hi hd hk
    obtain ⟨k, rfl⟩ : ∃ m, k = m + 1 := ⟨k - 1, by omega⟩
    simp only [laws_eqIntS.l0]
    rw [if_neg (by omega)]
  | succ d ih =>
    intro k i hi hd hk
    obtain ⟨k, rfl⟩ : ∃ m, k = m + 1 := ⟨k - 1, by omega⟩
    simp only [laws_eqIntS.l0]
    rw [if_pos (by omega), if_pos (by omega), if_pos (by omega), wnext i (by omega), if_pos trivial]
    exact ih k (i + 1) (by omega) (by omega) (by omega)
theorem laws_eqIntS_self (l : List Int) (hl : l.length ≤ 1048576) (k : Nat) (hk : 1048576 < k) : laws_eqIntS.f k l l = some true := by
  unfold laws_eqIntS.f
  rw [if_pos rfl]
  exact laws_eqIntS_go l hl l.length k 0 (by omega) (by omega) (by omega)

theorem neg_len (n : Nat) : ¬ ((1 : Int) + (n : Int) < 0) := by omega
theorem bne_no (b : Bool) : ¬ ((b != b) = true) := by simp
theorem ff : ¬ (false = true) := by simp
theorem ntt : ¬ ((!true) = true) := by simp
theorem sb {α β : Type} {o : Option α} {v : α} {f : α → Option β} {r : Option β} (h : o = some v) (k : f v = r) : o.bind f = r := by rw [h]; exact k
theorem st {α : Type} {c : Prop} [Decidable c] {a b r : α} (h : c) (k : a = r) : (if c then a else b) = r := by rw [if_pos h]; exact k
theorem sf {α : Type} {c : Prop} [Decidable c] {a b r : α} (h : ¬ c) (k : b = r) : (if c then a else b) = r := by rw [if_neg h]; exact k

def cvOp (x : S25) : S28 := ⟨x.f0, x.f1, x.f2, x.f3, x.f4, x.f5, ⟨x.f6.f0, x.f6.f1⟩⟩
theorem T25_at (l : List S25) (i : Nat) (h : i < l.length) : rd_T25 l (i : Int) = l[i] := by
  simp [rd_T25, List.getD, h]
theorem T28_at (l : List S28) (i : Nat) (h : i < l.length) : rd_T28 l (i : Int) = l[i] := by
  simp [rd_T28, List.getD, h]
theorem L25_at (l : List (List S25)) (i : Nat) (h : i < l.length) : rd_L3 l (i : Int) = l[i] := by
  simp [rd_L3, List.getD, h]
theorem L28_at (l : List (List S28)) (i : Nat) (h : i < l.length) : rd_L6 l (i : Int) = l[i] := by
  simp [rd_L6, List.getD, h]
theorem toOp_eq (a b c d e f g h : Int) : laws_toOp.f a b c d e f g h = some (a, b, c, d, e, f, g, h) := rfl
theorem eqOp_eq (a b c d e f g h : Int) : laws_eqOp.f a b c d e f g h a b c d e f g h = some true := by
  simp [laws_eqOp.f, laws_eqShape.f]

theorem laws_toOpS_go (l : List S25) (hl : l.length ≤ 1048576)  (d : Nat) : ∀ (k i : Nat) (acc : List S28), acc.length = (l.map cvOp).length → i ≤ l.length → l.length - i = d → d  < k →
    (∀ j, j < i → acc[j]? = (l.map cvOp)[j]?) → laws_toOpS.l0 k l acc (i : Int) = some (l.map cvOp) := by
  have hL : (l.map cvOp).length = l.length := by simp
  induction d with
  | zero =>
    intro k i acc ha hi hd hk hp
    obtain ⟨k, rfl⟩ : ∃ m, k = m + 1 := ⟨k - 1, by omega⟩
    simp only [laws_toOpS.l0]
    rw [if_neg (by omega)]
    exact congrArg some (all_eq acc (l.map cvOp) ha (fun j hj => hp j (by omega)))
  | succ d ih =>
    intro k i acc ha hi hd hk hp
    obtain ⟨k, rfl⟩ : ∃ m, k = m + 1 := ⟨k - 1, by omega⟩
    simp only [laws_toOpS.l0]
    rw [if_pos (by omega), if_pos (by omega), wnext i (by omega), T25_at l i (by omega), toOp_eq]
    simp only [Option.bind_some]
    rw [if_pos (by omega), Int.toNat_natCast]
    obtain ⟨h1, h2⟩ := set_step acc (l.map cvOp) i (cvOp l[i]) ha (by omega) (by simp [show i < l.length by omega]) hp
    exact ih k (i + 1) _ h1 (by omega) (by omega) (by omega) h2
theorem laws_toOpS_eq (l : List S25) (hl : l.length ≤ 1048576)  (k : Nat) (hk : 1048576 < k) : laws_toOpS.f k l = some (l.map cvOp) := by
  unfold laws_toOpS.f
  rw [if_pos (by omega), if_pos (by omega)]
  exact laws_toOpS_go l hl  l.length k 0 _ (by simp) (by omega) (by omega) (by omega) (by intro j hj; omega)

theorem laws_toOpSS_go (l : List (List S25)) (hl : l.length ≤ 1048576) (hx : ∀ x ∈ l, x.length ≤ 1048576) (d : Nat) : ∀ (k i : Nat) (acc : List (List S28)), acc.length = (l.map (fun x => x.map cvOp)).length → i ≤ l.length → l.length - i = d → d + 1048577 < k →
    (∀ j, j < i → acc[j]? = (l.map (fun x => x.map cvOp))[j]?) → laws_toOpSS.l0 k l acc (i : Int) = some (l.map (fun x => x.map cvOp)) := by
  have hL : (l.map (fun x => x.map cvOp)).length = l.length := by simp
  induction d with
  | zero =>
    intro k i acc ha hi hd hk hp
    obtain ⟨k, rfl⟩ : ∃ m, k = m + 1 := ⟨k - 1, by omega⟩
    simp only [laws_toOpSS.l0]
    rw [if_neg (by omega)]
    exact congrArg some (all_eq acc (l.map (fun x => x.map cvOp)) ha (fun j hj => hp j (by omega)))
  | succ d ih =>
    intro k i acc ha hi hd hk hp
    obtain ⟨k, rfl⟩ : ∃ m, k = m + 1 := ⟨k - 1, by omega⟩
    simp only [laws_toOpSS.l0]
    rw [if_pos (by omega), if_pos (by omega), wnext i (by omega), L25_at l i (by omega), laws_toOpS_eq l[i] (hx _ (List.getElem_mem _)) k (by omega)]
    simp only [Option.bind_some]
    rw [if_pos (by omega), Int.toNat_natCast]
    obtain ⟨h1, h2⟩ := set_step acc (l.map (fun x => x.map cvOp)) i ((fun x => x.map cvOp) l[i]) ha (by omega) (by simp [show i < l.length by omega]) hp
    exact ih k (i + 1) _ h1 (by omega) (by omega) (by omega) h2
theorem laws_toOpSS_eq (l : List (List S25)) (hl : l.length ≤ 1048576) (hx : ∀ x ∈ l, x.length ≤ 1048576) (k : Nat) (hk : 2097153 < k) : laws_toOpSS.f k l = some (l.map (fun x => x.map cvOp)) := by
  unfold laws_toOpSS.f
  rw [if_pos (by omega), if_pos (by omega)]
  exact laws_toOpSS_go l hl hx l.length k 0 _ (by simp) (by omega) (by omega) (by omega) (by intro j hj; omega)

theorem laws_eqOpS_go (l : List S28) (hl : l.length ≤ 1048576) (d : Nat) : ∀ (k i : Nat), i ≤ l.length → l.length - i = d → d  < k → laws_eqOpS.l0 k l l (i : Int) = some true := by
  induction d with
  | zero =>
    intro k i hi hd hk
    obtain ⟨k, rfl⟩ : ∃ m, k = m + 1 := ⟨k - 1, by omega⟩
    simp only [laws_eqOpS.l0]
    rw [if_neg (by omega)]
  | succ d ih =>
    intro k i hi hd hk
    obtain ⟨k, rfl⟩ : ∃ m, k = m + 1 := ⟨k - 1, by omega⟩
    simp only [laws_eqOpS.l0]
    rw [if_pos (by omega), if_pos (by omega), if_pos (by omega), wnext i (by omega), T28_at l i (by omega), eqOp_eq]
    simp only [Option.bind_some, if_true]
    exact ih k (i + 1) (by omega) (by omega) (by omega)
theorem laws_eqOpS_self (l : List S28) (hl : l.length ≤ 1048576) (k : Nat) (hk : 1048576 < k) : laws_eqOpS.f k l l = some true := by
  unfold laws_eqOpS.f
  rw [if_pos rfl]
  exact laws_eqOpS_go l hl l.length k 0 (by omega) (by omega) (by omega)

theorem laws_eqOpSS_go (l : List (List S28)) (hl : l.length ≤ 1048576) (hx : ∀ x ∈ l, x.length ≤ 1048576) (d : Nat) : ∀ (k i : Nat), i ≤ l.length → l.length - i = d → d + 1048577 < k → laws_eqOpSS.l0 k l l (i : Int) = some true := by
  induction d with
  | zero =>
    intro k i hi hd hk
    obtain ⟨k, rfl⟩ : ∃ m, k = m + 1 := ⟨k - 1, by omega⟩
    simp only [laws_eqOpSS.l0]
    rw [if_neg (by omega)]
  | succ d ih =>
    intro k i hi hd hk
    obtain ⟨k, rfl⟩ : ∃ m, k = m + 1 := ⟨k - 1, by omega⟩
    simp only [laws_eqOpSS.l0]
    rw [if_pos (by omega), if_pos (by omega), if_pos (by omega), wnext i (by omega), L28_at l i (by omega), laws_eqOpS_self l[i] (hx _ (List.getElem_mem _)) k (by omega)]
    simp only [Option.bind_some, if_true]
    exact ih k (i + 1) (by omega) (by omega) (by omega)
theorem laws_eqOpSS_self (l : List (List S28)) (hl : l.length ≤ 1048576) (hx : ∀ x ∈ l, x.length ≤ 1048576) (k : Nat) (hk : 2097153 < k) : laws_eqOpSS.f k l l = some true := by
  unfold laws_eqOpSS.f
  rw [if_pos rfl]
  exact laws_eqOpSS_go l hl hx l.length k 0 (by omega) (by omega) (by omega)

theorem szOpS_eq (l : List S25) (a : Int) (ha : 0 ≤ a ∧ a ≤ 1048576) (hl : l.length ≤ maxLen) : laws_szOpS.f l a = some (if a < l.length then -1 else a - (l.length : Int)) := by
  have : (l.length : Int) ≤ 9223372036854775807 := by
    have : maxLen = 9223372036854775807 := rfl
    omega
  unfold laws_szOpS.f
  rw [w64 (by omega) (by omega)]
  by_cases h : a < l.length
  · rw [if_pos h, if_pos (by omega)]
  · rw [if_neg h, if_neg (by omega)]
theorem szOpSS_go (l : List (List S25)) (hl : l.length ≤ 1048576) (hx : ∀ x ∈ l, x.length ≤ maxLen) (d : Nat) : ∀ (k i : Nat) (a : Int), 0 ≤ a ∧ a ≤ 1048576 → i ≤ l.length → l.length - i = d → d < k → ∃ r, laws_szOpSS.l0 k l a (i : Int) = some r ∧ (r < 0 ∨ ∀ j (hj : j < l.length), i ≤ j → l[j].length ≤ 1048576) := by
  induction d with
  | zero =>
    intro k i a ha hi hd hk
    obtain ⟨k, rfl⟩ : ∃ m, k = m + 1 := ⟨k - 1, by omega⟩
    simp only [laws_szOpSS.l0]
    rw [if_neg (by omega)]
    exact ⟨a, rfl, Or.inr fun j hj hij => by omega⟩
  | succ d ih =>
    intro k i a ha hi hd hk
    obtain ⟨k, rfl⟩ : ∃ m, k = m + 1 := ⟨k - 1, by omega⟩
    simp only [laws_szOpSS.l0]
    rw [if_pos (by omega), if_pos (by omega), wnext i (by omega), L25_at l i (by omega), szOpS_eq _ _ ha (hx _ (List.getElem_mem _))]
    simp only [Option.bind_some]
    by_cases h : a < (l[i].length : Int)
    · rw [if_pos h, if_pos (by omega)]
      exact ⟨-1, rfl, Or.inl (by omega)⟩
    · rw [if_neg h, if_neg (by omega)]
      obtain ⟨r, h1, h2⟩ := ih k (i + 1) (a - (l[i].length : Int)) (by omega) (by omega) (by omega) (by omega)
      refine ⟨r, h1, h2.imp id fun h2 j hj hij => ?_⟩
      by_cases e : i = j
      · subst e
        omega
      · exact h2 j hj (by omega)
theorem szOpSS_eq (l : List (List S25)) (hl : l.length ≤ maxLen) (hx : ∀ x ∈ l, x.length ≤ maxLen) (k : Nat) (hk : 1048576 < k) : ∃ r, laws_szOpSS.f k l 1048576 = some r ∧ (r < 0 ∨ (l.length ≤ 1048576 ∧ ∀ x ∈ l, x.length ≤ 1048576)) := by
  have h0 : (l.length : Int) ≤ 9223372036854775807 := by
    have : maxLen = 9223372036854775807 := rfl
    omega
  unfold laws_szOpSS.f
  rw [w64 (by omega) (by omega)]
  by_cases h : (1048576 : Int) - (l.length : Int) < 0
  · rw [if_pos h]
    exact ⟨-1, rfl, Or.inl (by omega)⟩
  · rw [if_neg h]
    obtain ⟨r, h1, h2⟩ := szOpSS_go l (by omega) hx l.length k 0 (1048576 - (l.length : Int)) (by omega) (by omega) (by omega) (by omega)
    refine ⟨r, h1, h2.imp id fun h2 => ⟨by omega, fun x hm => ?_⟩⟩
    obtain ⟨j, hj, rfl⟩ := List.getElem_of_mem hm
    exact h2 j hj (by omega)

theorem cfg_same (a b c : Int) : spec_ConfigOk.f a b c = impl_ConfigOk.f a b c := rfl
theorem cfg_some (a b c : Int) : ∃ t, impl_ConfigOk.f a b c = some t := by
  unfold impl_ConfigOk.f
  repeat' split
  all_goals exact ⟨_, rfl⟩
theorem story_l0 (l : List (List S28)) (hl : l.length ≤ 1048576) (d : Nat) : ∀ (k i : Nat), i ≤ l.length → l.length - i = d → d < k → spec_StoryOk.l0 k l (i : Int) = some (!((l.drop i).any fun p => decide (40 < p.length))) := by
  induction d with
  | zero =>
    intro k i hi hd hk
    obtain ⟨k, rfl⟩ : ∃ m, k = m + 1 := ⟨k - 1, by omega⟩
    simp only [spec_StoryOk.l0]
    rw [if_neg (by omega), List.drop_eq_nil_of_le (by omega)]
    rfl
  | succ d ih =>
    intro k i hi hd hk
    obtain ⟨k, rfl⟩ : ∃ m, k = m + 1 := ⟨k - 1, by omega⟩
    simp only [spec_StoryOk.l0]
    rw [if_pos (by omega), if_pos (by omega), wnext i (by omega), L28_at l i (by omega), List.drop_eq_getElem_cons (by omega : i < l.length), List.any_cons]
    by_cases h : (l[i].length : Int) > 40
    · rw [if_pos h, show decide (40 < l[i].length) = true from decide_eq_true (by omega)]
      rfl
    · rw [if_neg h, show decide (40 < l[i].length) = false from decide_eq_false (by omega), ih k (i + 1) (by omega) (by omega) (by omega)]
      simp
theorem story_both (a b c : Int) (l : List (List S28)) (m : List Int) (hl : l.length ≤ 1048576) (k : Nat) (hk : 1048577 < k) : ∃ t, spec_StoryOk.f k a b c l m = some t ∧ impl_StoryOk.f a b c l m = some t := by
  obtain ⟨k, rfl⟩ : ∃ m, k = m + 1 := ⟨k - 1, by omega⟩
  obtain ⟨t, ht⟩ := cfg_some a b c
  have hj := story_l0 l hl l.length k 0 (by omega) (by omega) (by omega)
  rw [List.drop_zero] at hj
  unfold spec_StoryOk.f impl_StoryOk.f impl_progsOk.f
  rw [cfg_same, ht]
  simp only [Option.bind_some, impl_Op_34.f]
  cases t with
  | false => exact ⟨false, rfl, rfl⟩
  | true =>
    rw [if_pos rfl, if_pos rfl]
    by_cases h : (l.length : Int) = b
    · rw [if_pos h, if_pos h]
      simp only [spec_StoryOk.j0, Option.bind_some]
      by_cases h2 : (m.length : Int) > 4000
      · rw [if_pos (decide_eq_true h2), show decide ((m.length : Int) ≤ 4000) = false from decide_eq_false (by omega)]
        exact ⟨false, rfl, by split <;> rfl⟩
      · rw [if_neg (by simpa using h2), show decide ((m.length : Int) ≤ 4000) = true from decide_eq_true (by omega)]
        refine ⟨_, hj, ?_⟩
        cases (l.any fun p => decide (40 < p.length)) <;> rfl
    · rw [if_neg h, if_neg h]
      exact ⟨false, rfl, rfl⟩
theorem FnExactStoryOk {Q : S25 → Prop} (a b c : Int) (l : List (List S25)) (m : List Int) (_ : (Lit.int .i64 a).wf = true) (_ : (Lit.int .i64 b).wf = true) (_ : (Lit.int .i64 c).wf = true) (hg : l.length ≤ maxLen ∧ ∀ x ∈ l, x.length ≤ maxLen ∧ ∀ y ∈ x, Q y) (_ : m.length ≤ maxLen ∧ ∀ x ∈ m, (Lit.int .i64 x).wf = true) : ∃ k, laws_FnExactStoryOk.f k a b c l m = some true := by
  obtain ⟨K, hK⟩ : ∃ K, 2097153 < K := ⟨2097154, by omega⟩
  refine ⟨K, ?_⟩
  by_cases h : (m.length : Int) > 1048576
  · unfold laws_FnExactStoryOk.f
    rw [if_pos h]
  have hm : m.length ≤ 1048576 := by omega
  have hn : ¬ (m.length : Int) > 1048576 := h
  obtain ⟨z, hz, hz2⟩ := szOpSS_eq l hg.1 (fun x hx => (hg.2 x hx).1) K (by omega)
  unfold laws_FnExactStoryOk.f
  refine sf hn (sb hz ?_)
  by_cases hz0 : z < 0
  · exact st hz0 rfl
  obtain ⟨hl, hx⟩ := hz2.resolve_left hz0
  have ho := laws_toOpSS_eq l hl hx K (by omega)
  have hi := laws_toIntS_eq m hm K (by omega)
  obtain ⟨t, h1, h2⟩ := story_both a b c (l.map fun x => x.map cvOp) m (by simpa using hl) K (by omega)
  refine sf hz0 (sb (v := (a, b, c)) rfl (sb ho (sb hi (sb h1 (sb ho (sb hi (sb (v := (a, b, c)) rfl (sb h2 (sf (bne_no _) (sb ho (sb (laws_eqOpSS_self _ (by simpa using hl) ?_ K (by omega)) (st rfl (sb hi (sb (laws_eqIntS_self m hm K (by omega)) (st rfl rfl)))))))))))))))
  intro x hm
  obtain ⟨y, hy, rfl⟩ := List.mem_map.1 hm
  simpa using hx y hy

end Go.Proofs.Ytnkcoooifjjmbaa.Pure
