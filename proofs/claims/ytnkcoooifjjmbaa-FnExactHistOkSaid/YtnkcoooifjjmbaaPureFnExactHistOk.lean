/- HistOk of the program answers as the reference does, at every config, programs and calls of at most 2^20 elements in all, and leaves its arguments alone. No condition. -/
import Derived.Test.YtnkcoooifjjmbaaQFnExactHistOkx5
namespace Go.Proofs.Ytnkcoooifjjmbaa.Pure
open Go.RowKit Go.Proofs.Ytnkcoooifjjmbaa.QFnExactHistOk Go.Proofs.YtnkcoooifjjmbaaW.PrintWords Go.Proofs.YtnkcoooifjjmbaaW.PrintLast Go.Proofs.YtnkcoooifjjmbaaW.PrintMore
set_option linter.unusedVariables false
set_option linter.unusedSimpArgs false

theorem w64 {x : Int} (h0 : -9223372036854775808 ≤ x) (h1 : x ≤ 9223372036854775807) : wrap64 x = x := by
  unfold wrap64
  omega
theorem wnext (i : Nat) (h : i < 9223372036854775807) : wrap64 ((i : Int) + 1) = ((i + 1 : Nat) : Int) := by
  unfold wrap64
  omega
theorem rdOf_at {α : Type} (d : α) (l : List α) (i : Nat) (h : i < l.length) : rdOf d l (i : Int) = l[i] := by
  simp [rdOf, List.getD, h]
theorem rd_at (l : List Int) (i : Nat) (h : i < l.length) : rd l (i : Int) = l[i] := by
  simp [rd, List.getD, h]
theorem set_step {α : Type} (l m : List α) (i : Nat) (v : α) (hl : l.length = m.length) (hi : i < m.length) (hv : m[i]? = some v)
    (hp : ∀ j, j < i → l[j]? = m[j]?) : (l.set i v).length = m.length ∧ ∀ j, j < i + 1 → (l.set i v)[j]? = m[j]? := by
  refine ⟨by simp [hl], fun j hj => ?_⟩
  rw [List.getElem?_set]
  by_cases e : i = j
  · subst e
    rw [if_pos rfl, if_pos (by omega), hv]
  · rw [if_neg e]
    exact hp j (by omega)
theorem all_eq {α : Type} (l m : List α) (hl : l.length = m.length) (hp : ∀ j, j < m.length → l[j]? = m[j]?) : l = m := by
  apply List.ext_getElem?
  intro j
  by_cases hj : j < m.length
  · exact hp j hj
  · rw [List.getElem?_eq_none (by omega), List.getElem?_eq_none (by omega)]

theorem b64 {n : Int} (h : (Lit.int .i64 n).wf = true) : -9223372036854775808 ≤ n ∧ n ≤ 9223372036854775807 := by
  simp [Lit.wf, IntKind.min, IntKind.max, IntKind.signed, IntKind.bits] at h
  omega
theorem b8 {n : Int} (h : (Lit.int .u8 n).wf = true) : 0 ≤ n ∧ n ≤ 255 := by
  simp [Lit.wf, IntKind.min, IntKind.max, IntKind.signed, IntKind.bits] at h
  omega

theorem neg_len (n : Nat) : ¬ ((1 : Int) + (n : Int) < 0) := by omega
theorem bne_no (b : Bool) : ¬ ((b != b) = true) := by simp
theorem ff : ¬ (false = true) := by simp
theorem ntt : ¬ ((!true) = true) := by simp
theorem sb {α β : Type} {o : Option α} {v : α} {f : α → Option β} {r : Option β} (h : o = some v) (k : f v = r) : o.bind f = r := by rw [h]; exact k
theorem st {α : Type} {c : Prop} [Decidable c] {a b r : α} (h : c) (k : a = r) : (if c then a else b) = r := by rw [if_pos h]; exact k
theorem sf {α : Type} {c : Prop} [Decidable c] {a b r : α} (h : ¬ c) (k : b = r) : (if c then a else b) = r := by rw [if_neg h]; exact k

def cvOp (x : S25) : S28 := ⟨x.f0, x.f1, x.f2, x.f3, x.f4, x.f5, ⟨x.f6.f0, x.f6.f1⟩⟩
theorem T25_at (l : List S25) (i : Nat) (h : i < l.length) : rd_T25 l (i : Int) = l[i] := by
  simp [rd_T25, List.getD, h]
theorem T28_at (l : List S28) (i : Nat) (h : i < l.length) : rd_T28 l (i : Int) = l[i] := by
  simp [rd_T28, List.getD, h]
theorem L25_at (l : List (List S25)) (i : Nat) (h : i < l.length) : rd_L3 l (i : Int) = l[i] := by
  simp [rd_L3, List.getD, h]
theorem L28_at (l : List (List S28)) (i : Nat) (h : i < l.length) : rd_L6 l (i : Int) = l[i] := by
  simp [rd_L6, List.getD, h]
theorem toOp_eq (a b c d e f g h : Int) : laws_toOp.f a b c d e f g h = some (a, b, c, d, e, f, g, h) := rfl
theorem eqOp_eq (a b c d e f g h : Int) : laws_eqOp.f a b c d e f g h a b c d e f g h = some true := by
  simp [laws_eqOp.f, laws_eqShape.f]

theorem laws_toOpS_go (l : List S25) (hl : l.length ≤ 1048576)  (d : Nat) : ∀ (k i : Nat) (acc : List S28), acc.length = (l.map cvOp).length → i ≤ l.length → l.length - i = d → d  < k →
    (∀ j, j < i → acc[j]? = (l.map cvOp)[j]?) → laws_toOpS.l0 k l acc (i : Int) = some (l.map cvOp) := by
  have hL : (l.map cvOp).length = l.length := by simp
  induction d with
  | zero =>
    intro k i acc ha hi hd hk hp
    obtain ⟨k, rfl⟩ : ∃ m, k = m + 1 := ⟨k - 1, by omega⟩
    simp only [laws_toOpS.l0]
    rw [if_neg (by omega)]
    exact congrArg some (all_eq acc (l.map cvOp) ha (fun j hj => hp j (by omega)))
  | succ d ih =>
    intro k i acc ha hi hd hk hp
    obtain ⟨k, rfl⟩ : ∃ m, k = m + 1 := ⟨k - 1, by omega⟩
    simp only [laws_toOpS.l0]
    rw [if_pos (by omega), if_pos (by omega), wnext i (by omega), T25_at l i (by omega), toOp_eq]
    simp only [Option.bind_some]
    rw [if_pos (by omega), Int.toNat_natCast]
    obtain ⟨h1, h2⟩ := set_step acc (l.map cvOp) i (cvOp l[i]) ha (by omega) (by simp [show i < l.length by omega]) hp
    exact ih k (i + 1) _ h1 (by omega) (by omega) (by omega) h2
theorem laws_toOpS_eq (l : List S25) (hl : l.length ≤ 1048576)  (k : Nat) (hk : 1048576 < k) : laws_toOpS.f k l = some (l.map cvOp) := by
  unfold laws_toOpS.f
  rw [if_pos (by omega), if_pos (by omega)]
  exact laws_toOpS_go l hl  l.length k 0 _ (by simp) (by omega) (by omega) (by omega) (by intro j hj; omega)

theorem laws_toOpSS_go (l : List (List S25)) (hl : l.length ≤ 1048576) (hx : ∀ x ∈ l, x.length ≤ 1048576) (d : Nat) : ∀ (k i : Nat) (acc : List (List S28)), acc.length = (l.map (fun x => x.map cvOp)).length → i ≤ l.length → l.length - i = d → d + 1048577 < k →
    (∀ j, j < i → acc[j]? = (l.map (fun x => x.map cvOp))[j]?) → laws_toOpSS.l0 k l acc (i : Int) = some (l.map (fun x => x.map cvOp)) := by
  have hL : (l.map (fun x => x.map cvOp)).length = l.length := by simp
  induction d with
  | zero =>
    intro k i acc ha hi hd hk hp
    obtain ⟨k, rfl⟩ : ∃ m, k = m + 1 := ⟨k - 1, by omega⟩
    simp only [laws_toOpSS.l0]
    rw [if_neg (by omega)]
    exact congrArg some (all_eq acc (l.map (fun x => x.map cvOp)) ha (fun j hj => hp j (by omega)))
  | succ d ih =>
    intro k i acc ha hi hd hk hp
    obtain ⟨k, rfl⟩ : ∃ m, k = m + 1 := ⟨k - 1, by omega⟩
    simp only [laws_toOpSS.l0]
    rw [if_pos (by omega), if_pos (by omega), wnext i (by omega), L25_at l i (by omega), laws_toOpS_eq l[i] (hx _ (List.getElem_mem _)) k (by omega)]
    simp only [Option.bind_some]
    rw [if_pos (by omega), Int.toNat_natCast]
    obtain ⟨h1, h2⟩ := set_step acc (l.map (fun x => x.map cvOp)) i ((fun x => x.map cvOp) l[i]) ha (by omega) (by simp [show i < l.length by omega]) hp
    exact ih k (i + 1) _ h1 (by omega) (by omega) (by omega) h2
theorem laws_toOpSS_eq (l : List (List S25)) (hl : l.length ≤ 1048576) (hx : ∀ x ∈ l, x.length ≤ 1048576) (k : Nat) (hk : 2097153 < k) : laws_toOpSS.f k l = some (l.map (fun x => x.map cvOp)) := by
  unfold laws_toOpSS.f
  rw [if_pos (by omega), if_pos (by omega)]
  exact laws_toOpSS_go l hl hx l.length k 0 _ (by simp) (by omega) (by omega) (by omega) (by intro j hj; omega)

theorem laws_eqOpS_go (l : List S28) (hl : l.length ≤ 1048576) (d : Nat) : ∀ (k i : Nat), i ≤ l.length → l.length - i = d → d  < k → laws_eqOpS.l0 k l l (i : Int) = some true := by
  induction d with
  | zero =>
    intro k i hi hd hk
    obtain ⟨k, rfl⟩ : ∃ m, k = m + 1 := ⟨k - 1, by omega⟩
    simp only [laws_eqOpS.l0]
    rw [if_neg (by omega)]
  | succ d ih =>
    intro k i hi hd hk
    obtain ⟨k, rfl⟩ : ∃ m, k = m + 1 := ⟨k - 1, by omega⟩
    simp only [laws_eqOpS.l0]
    rw [if_pos (by omega), if_pos (by omega), if_pos (by omega), wnext i (by omega), T28_at l i (by omega), eqOp_eq]
    simp only [Option.bind_some, if_true]
    exact ih k (i + 1) (by omega) (by omega) (by omega)
theorem laws_eqOpS_self (l : List S28) (hl : l.length ≤ 1048576) (k : Nat) (hk : 1048576 < k) : laws_eqOpS.f k l l = some true := by
  unfold laws_eqOpS.f
  rw [if_pos rfl]
  exact laws_eqOpS_go l hl l.length k 0 (by omega) (by omega) (by omega)

theorem laws_eqOpSS_go (l : List (List S28)) (hl : l.length ≤ 1048576) (hx : ∀ x ∈ l, x.length ≤ 1048576) (d : Nat) : ∀ (k i : Nat), i ≤ l.length → l.length - i = d → d + 1048577 < k → laws_eqOpSS.l0 k l l (i : Int) = some true := by
  induction d with
  | zero =>
    intro k i hi hd hk
    obtain ⟨k, rfl⟩ : ∃ m, k = m + 1 := ⟨k - 1, by omega⟩
    simp only [laws_eqOpSS.l0]
    rw [if_neg (by omega)]
  | succ d ih =>
    intro k i hi hd hk
    obtain ⟨k, rfl⟩ : ∃ m, k = m + 1 := ⟨k - 1, by omega⟩
    simp only [laws_eqOpSS.l0]
    rw [if_pos (by omega), if_pos (by omega), if_pos (by omega), wnext i (by omega), L28_at l i (by omega), laws_eqOpS_self l[i] (hx _ (List.getElem_mem _)) k (by omega)]
    simp only [Option.bind_some, if_true]
    exact ih k (i + 1) (by omega) (by omega) (by omega)
theorem laws_eqOpSS_self (l : List (List S28)) (hl : l.length ≤ 1048576) (hx : ∀ x ∈ l, x.length ≤ 1048576) (k : Nat) (hk : 2097153 < k) : laws_eqOpSS.f k l l = some true := by
  unfold laws_eqOpSS.f
  rw [if_pos rfl]
  exact laws_eqOpSS_go l hl hx l.length k 0 (by omega) (by omega) (by omega)

theorem szOpS_eq (l : List S25) (a : Int) (ha : 0 ≤ a ∧ a ≤ 1048576) (hl : l.length ≤ maxLen) : laws_szOpS.f l a = some (if a < l.length then -1 else a - (l.length : Int)) := by
  have : (l.length : Int) ≤ 9223372036854775807 := by
    have : maxLen = 9223372036854775807 := rfl
    omega
  unfold laws_szOpS.f
  rw [w64 (by omega) (by omega)]
  by_cases h : a < l.length
  · rw [if_pos h, if_pos (by omega)]
  · rw [if_neg h, if_neg (by omega)]
theorem szOpSS_go (l : List (List S25)) (hl : l.length ≤ 1048576) (hx : ∀ x ∈ l, x.length ≤ maxLen) (d : Nat) : ∀ (k i : Nat) (a : Int), 0 ≤ a ∧ a ≤ 1048576 → i ≤ l.length → l.length - i = d → d < k → ∃ r, laws_szOpSS.l0 k l a (i : Int) = some r ∧ (r < 0 ∨ ∀ j (hj : j < l.length), i ≤ j → l[j].length ≤ 1048576) := by
  induction d with
  | zero =>
    intro k i a ha hi hd hk
    obtain ⟨k, rfl⟩ : ∃ m, k = m + 1 := ⟨k - 1, by omega⟩
    simp only [laws_szOpSS.l0]
    rw [if_neg (by omega)]
    exact ⟨a, rfl, Or.inr fun j hj hij => by omega⟩
  | succ d ih =>
    intro k i a ha hi hd hk
    obtain ⟨k, rfl⟩ : ∃ m, k = m + 1 := ⟨k - 1, by omega⟩
    simp only [laws_szOpSS.l0]
    rw [if_pos (by omega), if_pos (by omega), wnext i (by omega), L25_at l i (by omega), szOpS_eq _ _ ha (hx _ (List.getElem_mem _))]
    simp only [Option.bind_some]
    by_cases h : a < (l[i].length : Int)
    · rw [if_pos h, if_pos (by omega)]
      exact ⟨-1, rfl, Or.inl (by omega)⟩
    · rw [if_neg h, if_neg (by omega)]
      obtain ⟨r, h1, h2⟩ := ih k (i + 1) (a - (l[i].length : Int)) (by omega) (by omega) (by omega) (by omega)
      refine ⟨r, h1, h2.imp id fun h2 j hj hij => ?_⟩
      by_cases e : i = j
      · subst e
        omega
      · exact h2 j hj (by omega)
theorem szOpSS_eq (l : List (List S25)) (hl : l.length ≤ maxLen) (hx : ∀ x ∈ l, x.length ≤ maxLen) (k : Nat) (hk : 1048576 < k) : ∃ r, laws_szOpSS.f k l 1048576 = some r ∧ (r < 0 ∨ (l.length ≤ 1048576 ∧ ∀ x ∈ l, x.length ≤ 1048576)) := by
  have h0 : (l.length : Int) ≤ 9223372036854775807 := by
    have : maxLen = 9223372036854775807 := rfl
    omega
  unfold laws_szOpSS.f
  rw [w64 (by omega) (by omega)]
  by_cases h : (1048576 : Int) - (l.length : Int) < 0
  · rw [if_pos h]
    exact ⟨-1, rfl, Or.inl (by omega)⟩
  · rw [if_neg h]
    obtain ⟨r, h1, h2⟩ := szOpSS_go l (by omega) hx l.length k 0 (1048576 - (l.length : Int)) (by omega) (by omega) (by omega) (by omega)
    refine ⟨r, h1, h2.imp id fun h2 => ⟨by omega, fun x hm => ?_⟩⟩
    obtain ⟨j, hj, rfl⟩ := List.getElem_of_mem hm
    exact h2 j hj (by omega)

theorem T69_at (l : List S69) (i : Nat) (h : i < l.length) : rd_T69 l (i : Int) = l[i] := by
  simp [rd_T69, List.getD, h]
theorem laws_eqCall_self (a0 a1 a2 a3 a4 a5 : Int) : laws_eqCall.f a0 a1 a2 a3 a4 a5 a0 a1 a2 a3 a4 a5 = some true := by
  simp [laws_eqCall.f]
theorem laws_eqCallS_go (l : List S69) (hl : l.length ≤ 1048576) (d : Nat) : ∀ (k i : Nat), i ≤ l.length → l.length - i = d → d < k → laws_eqCallS.l0 k l l (i : Int) = some true := by
  induction d with
  | zero =>
    intro k i hi hd hk
    obtain ⟨k, rfl⟩ : ∃ m, k = m + 1 := ⟨k - 1, by omega⟩
    simp only [laws_eqCallS.l0]
    rw [if_neg (by omega)]
  | succ d ih =>
    intro k i hi hd hk
    obtain ⟨k, rfl⟩ : ∃ m, k = m + 1 := ⟨k - 1, by omega⟩
    simp only [laws_eqCallS.l0]
    rw [if_pos (by omega), if_pos (by omega), if_pos (by omega), wnext i (by omega), laws_eqCall_self]
    simp only [Option.bind_some, if_true]
    exact ih k (i + 1) (by omega) (by omega) (by omega)
theorem laws_eqCallS_self (l : List S69) (hl : l.length ≤ 1048576) (k : Nat) (hk : 1048576 < k) : laws_eqCallS.f k l l = some true := by
  unfold laws_eqCallS.f
  rw [if_pos rfl]
  exact laws_eqCallS_go l hl l.length k 0 (by omega) (by omega) (by omega)

theorem cfg_same (a b c : Int) : spec_ConfigOk.f a b c = impl_ConfigOk.f a b c := rfl
theorem cfg_some (a b c : Int) : ∃ t, impl_ConfigOk.f a b c = some t := by
  unfold impl_ConfigOk.f
  repeat' split
  all_goals exact ⟨_, rfl⟩
theorem story_l0 (l : List (List S28)) (hl : l.length ≤ 1048576) (d : Nat) : ∀ (k i : Nat), i ≤ l.length → l.length - i = d → d < k → spec_StoryOk.l0 k l (i : Int) = some (!((l.drop i).any fun p => decide (40 < p.length))) := by
  induction d with
  | zero =>
    intro k i hi hd hk
    obtain ⟨k, rfl⟩ : ∃ m, k = m + 1 := ⟨k - 1, by omega⟩
    simp only [spec_StoryOk.l0]
    rw [if_neg (by omega), List.drop_eq_nil_of_le (by omega)]
    rfl
  | succ d ih =>
    intro k i hi hd hk
    obtain ⟨k, rfl⟩ : ∃ m, k = m + 1 := ⟨k - 1, by omega⟩
    simp only [spec_StoryOk.l0]
    rw [if_pos (by omega), if_pos (by omega), wnext i (by omega), L28_at l i (by omega), List.drop_eq_getElem_cons (by omega : i < l.length), List.any_cons]
    by_cases h : (l[i].length : Int) > 40
    · rw [if_pos h, show decide (40 < l[i].length) = true from decide_eq_true (by omega)]
      rfl
    · rw [if_neg h, show decide (40 < l[i].length) = false from decide_eq_false (by omega), ih k (i + 1) (by omega) (by omega) (by omega)]
      simp
theorem cfg_true {a b c : Int} (h : impl_ConfigOk.f a b c = some true) : 1 ≤ b ∧ b ≤ 3 := by
  unfold impl_ConfigOk.f at h
  repeat' split at h
  all_goals first | exact ⟨by omega, by omega⟩ | cases h
theorem ok_both (a b c : Int) (l : List (List S28)) (hl : l.length ≤ 1048576) (k : Nat) (hk : 1048577 < k) : ∃ t, spec_StoryOk.f k a b c l [] = some t ∧ impl_progsOk.f a b c l = some t ∧ (t = true → (l.length : Int) = b ∧ 1 ≤ b ∧ b ≤ 3) := by
  obtain ⟨k, rfl⟩ : ∃ m, k = m + 1 := ⟨k - 1, by omega⟩
  obtain ⟨t, ht⟩ := cfg_some a b c
  have hj := story_l0 l hl l.length k 0 (by omega) (by omega) (by omega)
  rw [List.drop_zero] at hj
  unfold spec_StoryOk.f impl_progsOk.f
  rw [cfg_same, ht]
  simp only [Option.bind_some, impl_Op_34.f]
  cases t with
  | false => exact ⟨false, rfl, rfl, fun h => by cases h⟩
  | true =>
    rw [if_pos rfl, if_pos rfl]
    by_cases h : (l.length : Int) = b
    · rw [if_pos h, if_pos h]
      simp only [spec_StoryOk.j0]
      exact ⟨_, hj, rfl, fun _ => ⟨h, cfg_true ht⟩⟩
    · rw [if_neg h, if_neg h]
      exact ⟨false, rfl, rfl, fun h => by cases h⟩
structure HInv (n : Nat) (nx bz ls : List Int) (en : List Bool) : Prop where
  x : nx.length = n
  b : bz.length = n
  l : ls.length = n
  e : en.length = n
  at_ : ∀ j : Nat, j < n → (rdOf false en (j : Int) = true ∧ rd bz (j : Int) = -1) ∨ (rdOf false en (j : Int) = false ∧ -1 ≤ rd ls (j : Int) ∧ rd ls (j : Int) ≤ 9223372036854775807 ∧ rd bz (j : Int) = wrap64 (rd ls (j : Int) + 1))
theorem rd_set (l : List Int) (i j : Nat) (v : Int) (h : i < l.length) : rd (l.set i v) (j : Int) = if i = j then v else rd l (j : Int) := by
  by_cases e : i = j
  · subst e
    simp [rd, List.getD, h]
  · simp [rd, List.getD, e]
theorem rdB_set (l : List Bool) (i j : Nat) (v : Bool) (h : i < l.length) : rdOf false (l.set i v) (j : Int) = if i = j then v else rdOf false l (j : Int) := by
  by_cases e : i = j
  · subst e
    simp [rdOf, List.getD, h]
  · simp [rdOf, List.getD, e]
theorem bad_same (L : List (List S28)) (C : List S69) (n : Nat) (nx bz ls : List Int) (en : List Bool) (z : Int) (x : S69) (h : HInv n nx bz ls en) (w2 : x.f2 ≤ 9223372036854775807) : (histB9 L nx bz (n : Int) x ∨ histB11 C bz z x ∨ histB13 x) ↔ (histI15 L C nx ls en z (n : Int) x ∨ (x.f3 = -1 ∧ (x.f4 ≠ 0 ∨ x.f5 ≠ 0)) ∨ (x.f3 ≠ -1 ∧ x.f3 < x.f2)) := by
  unfold histB9 histB11 histB13 histI15
  simp only [or_assoc]
  by_cases h0 : x.f0 < 0
  · exact ⟨fun _ => Or.inl h0, fun _ => Or.inl h0⟩
  by_cases h1 : x.f0 ≥ (n : Int)
  · exact ⟨fun _ => Or.inr (Or.inl h1), fun _ => Or.inr (Or.inl h1)⟩
  obtain ⟨j, hj⟩ : ∃ j : Nat, x.f0 = (j : Int) := ⟨x.f0.toNat, by omega⟩
  have hA := h.at_ j (by omega)
  rw [hj] at h0 h1 ⊢
  generalize (rd_T69 C (z - 1)).f2 = p
  generalize ((rd_L6 L (j : Int)).length : Int) = q
  generalize rd nx (j : Int) = r at *
  generalize rd bz (j : Int) = b at *
  generalize rd ls (j : Int) = l at *
  generalize rdOf false en (j : Int) = e at *
  generalize x.f1 = f1 at *
  generalize x.f2 = f2 at *
  generalize x.f3 = f3 at *
  generalize x.f4 = f4 at *
  generalize x.f5 = f5 at *
  clear h hj
  rcases hA with ⟨rfl, rfl⟩ | ⟨rfl, k1, k2, rfl⟩
  · exact ⟨fun _ => Or.inr (Or.inr (Or.inr (Or.inr (Or.inr (Or.inr (Or.inl rfl)))))), fun _ => Or.inr (Or.inr (Or.inr (Or.inr (Or.inl (by omega)))))⟩
  · simp only [Bool.false_eq_true, false_or]
    by_cases h5 : l = 9223372036854775807
    · subst h5
      have hw : wrap64 ((9223372036854775807 : Int) + 1) < 0 := by unfold wrap64; omega
      exact ⟨fun _ => Or.inr (Or.inr (Or.inr (Or.inr (Or.inr (Or.inr (Or.inl w2)))))), fun _ => Or.inr (Or.inr (Or.inr (Or.inr (Or.inl hw))))⟩
    · have hw : wrap64 (l + 1) = l + 1 := by unfold wrap64; omega
      rw [hw]
      omega
theorem sgo (L : List (List S28)) (C : List S69) (n : Int) (d : Nat) (z : Int) (nx bz : List Int) (x : S69) (hx : rd_T69 C z = x) : ((histB9 L nx bz n x ∨ histB11 C bz z x ∨ histB13 x) → spec_HistOk.go L C n (d + 1) z nx bz = false) ∧ (¬ (histB9 L nx bz n x ∨ histB11 C bz z x ∨ histB13 x) → spec_HistOk.go L C n (d + 1) z nx bz = spec_HistOk.go L C n d (z + 1) (nx.set x.f0.toNat (wrap64 (x.f1 + 1))) (bz.set x.f0.toNat (if x.f3 ≥ 0 then wrap64 (x.f3 + 1) else x.f3))) := by
  rw [spec_HistOk.go, hx]
  refine ⟨fun h => ?_, fun h => ?_⟩
  · by_cases h9 : histB9 L nx bz n x
    · rw [if_pos h9]
    rw [if_neg h9]
    by_cases h11 : histB11 C bz z x
    · rw [if_pos h11]
    rw [if_neg h11, if_pos ((h.resolve_left h9).resolve_left h11)]
  · rw [if_neg (fun g => h (Or.inl g)), if_neg (fun g => h (Or.inr (Or.inl g))), if_neg (fun g => h (Or.inr (Or.inr g)))]
theorem igo (L : List (List S28)) (C : List S69) (n : Int) (d : Nat) (z : Int) (nx ls : List Int) (en : List Bool) (x : S69) (hx : rd_T69 C z = x) : ((histI15 L C nx ls en z n x ∨ (x.f3 = -1 ∧ (x.f4 ≠ 0 ∨ x.f5 ≠ 0)) ∨ (x.f3 ≠ -1 ∧ x.f3 < x.f2)) → impl_HistOk.go L C n (d + 1) z nx ls en = false) ∧ (¬ (histI15 L C nx ls en z n x ∨ (x.f3 = -1 ∧ (x.f4 ≠ 0 ∨ x.f5 ≠ 0)) ∨ (x.f3 ≠ -1 ∧ x.f3 < x.f2)) → impl_HistOk.go L C n (d + 1) z nx ls en = impl_HistOk.go L C n d (z + 1) (nx.set x.f0.toNat (wrap64 (rd nx x.f0 + 1))) (ls.set x.f0.toNat x.f3) (if x.f3 = -1 then en.set x.f0.toNat true else en)) := by
  rw [impl_HistOk.go, hx]
  by_cases h15 : histI15 L C nx ls en z n x
  · rw [if_pos h15]
    exact ⟨fun _ => rfl, fun h => absurd (Or.inl h15) h⟩
  rw [if_neg h15]
  by_cases h3 : x.f3 = -1
  · rw [if_pos h3, if_pos h3]
    by_cases h4 : x.f4 ≠ 0 ∨ x.f5 ≠ 0
    · rw [if_pos h4]
      exact ⟨fun _ => rfl, fun h => absurd (Or.inr (Or.inl ⟨h3, h4⟩)) h⟩
    · rw [if_neg h4]
      exact ⟨fun h => h.elim (fun g => absurd g h15) (fun g => g.elim (fun g => absurd g.2 h4) (fun g => absurd h3 g.1)), fun _ => rfl⟩
  · rw [if_neg h3, if_neg h3]
    by_cases h4 : x.f3 < x.f2
    · rw [if_pos h4]
      exact ⟨fun _ => rfl, fun h => absurd (Or.inr (Or.inr ⟨h3, h4⟩)) h⟩
    · rw [if_neg h4]
      exact ⟨fun h => h.elim (fun g => absurd g h15) (fun g => g.elim (fun g => absurd g.1 h3) (fun g => absurd g.2 h4)), fun _ => rfl⟩
theorem inv_next {n : Nat} {nx bz ls : List Int} {en : List Bool} {f0 f1 f3 : Int} (h : HInv n nx bz ls en) (h0 : 0 ≤ f0) (h1 : f0 < (n : Int)) (hq : rdOf false en f0 = false) (h3 : -1 ≤ f3) (h3' : f3 ≤ 9223372036854775807) : HInv n (nx.set f0.toNat (wrap64 (f1 + 1))) (bz.set f0.toNat (if f3 ≥ 0 then wrap64 (f3 + 1) else f3)) (ls.set f0.toNat f3) (if f3 = -1 then en.set f0.toNat true else en) := by
  obtain ⟨j, rfl⟩ : ∃ j : Nat, f0 = (j : Int) := ⟨f0.toNat, by omega⟩
  rw [Int.toNat_natCast]
  refine ⟨by simp [h.x], by simp [h.b], by simp [h.l], by split <;> simp [h.e], fun t ht => ?_⟩
  have hb := h.b
  have hl := h.l
  have he := h.e
  rw [rd_set bz _ _ _ (by omega)]
  by_cases e : j = t
  · rw [if_pos e]
    by_cases hf : f3 = -1
    · rw [if_pos hf, rdB_set _ _ _ _ (by omega), if_pos e, if_neg (by omega)]
      exact Or.inl ⟨rfl, hf⟩
    · rw [if_neg hf, if_pos (by omega), rd_set _ _ _ _ (by omega), if_pos e]
      subst e
      exact Or.inr ⟨hq, h3, h3', rfl⟩
  · rw [if_neg e]
    have e2 : rd (ls.set j f3) (t : Int) = rd ls (t : Int) := by rw [rd_set _ _ _ _ (by omega), if_neg e]
    rw [e2]
    by_cases hf : f3 = -1
    · rw [if_pos hf, rdB_set _ _ _ _ (by omega), if_neg e]
      exact h.at_ t ht
    · rw [if_neg hf]
      exact h.at_ t ht
theorem szOpSS_go2 (l : List (List S25)) (hl : l.length ≤ 1048576) (hx : ∀ x ∈ l, x.length ≤ maxLen) (d : Nat) : ∀ (k i : Nat) (a : Int), 0 ≤ a ∧ a ≤ 1048576 → i ≤ l.length → l.length - i = d → d < k → ∃ r, laws_szOpSS.l0 k l a (i : Int) = some r ∧ r ≤ a ∧ (r < 0 ∨ ∀ j (hj : j < l.length), i ≤ j → l[j].length ≤ 1048576) := by
  induction d with
  | zero =>
    intro k i a ha hi hd hk
    obtain ⟨k, rfl⟩ : ∃ m, k = m + 1 := ⟨k - 1, by omega⟩
    simp only [laws_szOpSS.l0]
    rw [if_neg (by omega)]
    exact ⟨a, rfl, Int.le_refl _, Or.inr fun j hj hij => by omega⟩
  | succ d ih =>
    intro k i a ha hi hd hk
    obtain ⟨k, rfl⟩ : ∃ m, k = m + 1 := ⟨k - 1, by omega⟩
    simp only [laws_szOpSS.l0]
    rw [if_pos (by omega), if_pos (by omega), wnext i (by omega), L25_at l i (by omega), szOpS_eq _ _ ha (hx _ (List.getElem_mem _))]
    simp only [Option.bind_some]
    by_cases h : a < (l[i].length : Int)
    · rw [if_pos h, if_pos (by omega)]
      exact ⟨-1, rfl, by omega, Or.inl (by omega)⟩
    · rw [if_neg h, if_neg (by omega)]
      obtain ⟨r, h1, hr, h2⟩ := ih k (i + 1) (a - (l[i].length : Int)) (by omega) (by omega) (by omega) (by omega)
      refine ⟨r, h1, by omega, h2.imp id fun h2 j hj hij => ?_⟩
      by_cases e : i = j
      · subst e
        omega
      · exact h2 j hj (by omega)
theorem szOpSS_eq2 (l : List (List S25)) (hl : l.length ≤ maxLen) (hx : ∀ x ∈ l, x.length ≤ maxLen) (k : Nat) (hk : 1048576 < k) : ∃ r, laws_szOpSS.f k l 1048576 = some r ∧ r ≤ 1048576 ∧ (r < 0 ∨ (l.length ≤ 1048576 ∧ ∀ x ∈ l, x.length ≤ 1048576)) := by
  have h0 : (l.length : Int) ≤ 9223372036854775807 := by
    have : maxLen = 9223372036854775807 := rfl
    omega
  unfold laws_szOpSS.f
  rw [w64 (by omega) (by omega)]
  by_cases h : (1048576 : Int) - (l.length : Int) < 0
  · rw [if_pos h]
    exact ⟨-1, rfl, by omega, Or.inl (by omega)⟩
  · rw [if_neg h]
    obtain ⟨r, h1, hr, h2⟩ := szOpSS_go2 l (by omega) hx l.length k 0 (1048576 - (l.length : Int)) (by omega) (by omega) (by omega) (by omega)
    refine ⟨r, h1, by omega, h2.imp id fun h2 => ⟨by omega, fun x hm => ?_⟩⟩
    obtain ⟨j, hj, rfl⟩ := List.getElem_of_mem hm
    exact h2 j hj (by omega)

theorem hist_go (L : List (List S28)) (C : List S69) (n : Nat) (hw : ∀ x ∈ C, x.f2 ≤ 9223372036854775807 ∧ x.f3 ≤ 9223372036854775807) (d : Nat) : ∀ (i : Nat) (nx bz ls : List Int) (en : List Bool), HInv n nx bz ls en → i + d = C.length → spec_HistOk.go L C (n : Int) d (i : Int) nx bz = impl_HistOk.go L C (n : Int) d (i : Int) nx ls en := by
  induction d with
  | zero => exact fun _ _ _ _ _ _ _ => rfl
  | succ d ih =>
    intro i nx bz ls en h hi
    obtain ⟨x, hx⟩ : ∃ x, rd_T69 C (i : Int) = x := ⟨_, rfl⟩
    have hm : x ∈ C := by
      rw [← hx, T69_at C i (by omega)]
      exact List.getElem_mem _
    obtain ⟨w2, w3⟩ := hw x hm
    obtain ⟨s1, s2⟩ := sgo L C (n : Int) d (i : Int) nx bz x hx
    obtain ⟨p1, p2⟩ := igo L C (n : Int) d (i : Int) nx ls en x hx
    have hs := bad_same L C n nx bz ls en (i : Int) x h w2
    by_cases hB : histB9 L nx bz (n : Int) x ∨ histB11 C bz (i : Int) x ∨ histB13 x
    · rw [s1 hB, p1 (hs.1 hB)]
    · have hB2 := fun g => hB (hs.2 g)
      rw [s2 hB, p2 hB2]
      have g0 : ¬ x.f0 < 0 := fun g => hB (Or.inl (Or.inl g))
      have g1 : ¬ x.f0 ≥ (n : Int) := fun g => hB (Or.inl (Or.inr (Or.inl g)))
      have g2 : x.f1 = rd nx x.f0 := Classical.byContradiction fun g => hB (Or.inl (Or.inr (Or.inr (Or.inl g))))
      have g3 : rdOf false en x.f0 = false := by
        cases hq : rdOf false en x.f0 with
        | false => rfl
        | true => exact absurd (Or.inl (Or.inr (Or.inr (Or.inr (Or.inr (Or.inr (Or.inr (Or.inl hq)))))))) hB2
      have g4 : ¬ x.f3 < -1 := fun g => hB (Or.inr (Or.inl (Or.inr (Or.inr (Or.inr g)))))
      rw [← g2, show (i : Int) + 1 = ((i + 1 : Nat) : Int) by omega]
      exact ih (i + 1) _ _ _ _ (inv_next h (by omega) (by omega) g3 (by omega) w3) (by omega)
theorem hist_both (a b c : Int) (L : List (List S28)) (C : List S69) (hl : L.length ≤ 1048576) (hC : C.length ≤ 1048576) (hw : ∀ x ∈ C, x.f2 ≤ 9223372036854775807 ∧ x.f3 ≤ 9223372036854775807) (k : Nat) (hk : 4194400 < k) : ∃ t, spec_HistOk.f k a b c L C = some t ∧ impl_HistOk.f k a b c L C = some t := by
  obtain ⟨t, h1, h2, h3⟩ := ok_both a b c L hl k (by omega)
  unfold spec_HistOk.f impl_HistOk.f
  rw [h1, h2]
  simp only [Option.bind_some]
  cases t with
  | false => exact ⟨false, rfl, rfl⟩
  | true =>
    obtain ⟨e1, e2, e3⟩ := h3 rfl
    rw [if_pos rfl, if_pos rfl, if_pos ⟨⟨e2, e3⟩, e1, hC⟩, if_pos ⟨⟨e2, e3⟩, e1, hC⟩]
    obtain ⟨n, rfl⟩ : ∃ n : Nat, b = (n : Int) := ⟨b.toNat, by omega⟩
    rw [Int.toNat_natCast]
    refine ⟨_, congrArg some (hist_go L C n hw C.length 0 _ _ _ _ ⟨by simp, by simp, by simp, by simp, fun j hj => Or.inr ?_⟩ (by omega)), rfl⟩
    refine ⟨?_, ?_, ?_, ?_⟩ <;> simp [rd, rdOf, List.getD, hj, wrap64]
def cvCall (x : S71) : S69 := ⟨x.f0, x.f1, x.f2, x.f3, x.f4, x.f5⟩
theorem T71_at (l : List S71) (i : Nat) (h : i < l.length) : rd_T71 l (i : Int) = l[i] := by
  simp [rd_T71, List.getD, h]
theorem toCall_eq (a b c d e f : Int) : laws_toCall.f a b c d e f = some (a, b, c, d, e, f) := rfl

theorem laws_toCallS_go (l : List S71) (hl : l.length ≤ 1048576)  (d : Nat) : ∀ (k i : Nat) (acc : List S69), acc.length = (l.map cvCall).length → i ≤ l.length → l.length - i = d → d  < k →
    (∀ j, j < i → acc[j]? = (l.map cvCall)[j]?) → laws_toCallS.l0 k l acc (i : Int) = some (l.map cvCall) := by
  have hL : (l.map cvCall).length = l.length := by simp
  induction d with
  | zero =>
    intro k i acc ha hi hd hk hp
    obtain ⟨k, rfl⟩ : ∃ m, k = m + 1 := ⟨k - 1, by omega⟩
    simp only [laws_toCallS.l0]
    rw [if_neg (by omega)]
    exact congrArg some (all_eq acc (l.map cvCall) ha (fun j hj => hp j (by omega)))
  | succ d ih =>
    intro k i acc ha hi hd hk hp
    obtain ⟨k, rfl⟩ : ∃ m, k = m + 1 := ⟨k - 1, by omega⟩
    simp only [laws_toCallS.l0]
    rw [if_pos (by omega), if_pos (by omega), wnext i (by omega), T71_at l i (by omega), toCall_eq]
    simp only [Option.bind_some]
    rw [if_pos (by omega), Int.toNat_natCast]
    obtain ⟨h1, h2⟩ := set_step acc (l.map cvCall) i (cvCall l[i]) ha (by omega) (by simp [show i < l.length by omega]) hp
    exact ih k (i + 1) _ h1 (by omega) (by omega) (by omega) h2
theorem laws_toCallS_eq (l : List S71) (hl : l.length ≤ 1048576)  (k : Nat) (hk : 1048576 < k) : laws_toCallS.f k l = some (l.map cvCall) := by
  unfold laws_toCallS.f
  rw [if_pos (by omega), if_pos (by omega)]
  exact laws_toCallS_go l hl  l.length k 0 _ (by simp) (by omega) (by omega) (by omega) (by intro j hj; omega)

theorem FnExactHistOk {Q : S25 → Prop} (a b c : Int) (l : List (List S25)) (m : List S71) (_ : (Lit.int .i64 a).wf = true) (_ : (Lit.int .i64 b).wf = true) (_ : (Lit.int .i64 c).wf = true) (hg : l.length ≤ maxLen ∧ ∀ x ∈ l, x.length ≤ maxLen ∧ ∀ y ∈ x, Q y) (hm : m.length ≤ maxLen ∧ ∀ x ∈ m, (Lit.int .i64 x.f0).wf = true ∧ (Lit.int .i64 x.f1).wf = true ∧ (Lit.int .i64 x.f2).wf = true ∧ (Lit.int .i64 x.f3).wf = true ∧ (Lit.int .i64 x.f4).wf = true ∧ (Lit.int .i64 x.f5).wf = true) : ∃ k, laws_FnExactHistOk.f k a b c l m = some true := by
  obtain ⟨K, hK⟩ : ∃ K, 4194400 < K := ⟨4194401, by omega⟩
  refine ⟨K, ?_⟩
  obtain ⟨z, hz, hzB, hz2⟩ := szOpSS_eq2 l hg.1 (fun x hx => (hg.2 x hx).1) K (by omega)
  unfold laws_FnExactHistOk.f
  refine sb hz ?_
  by_cases hz0 : z < 0
  · exact st hz0 rfl
  obtain ⟨hl, hx⟩ := hz2.resolve_left hz0
  refine sf hz0 ?_
  have h0 : (m.length : Int) ≤ 9223372036854775807 := by
    have : maxLen = 9223372036854775807 := rfl
    have := hm.1
    omega
  have hw : wrap64 (z - (m.length : Int)) = z - (m.length : Int) := w64 (by omega) (by omega)
  unfold laws_szCallS.f
  rw [hw]
  by_cases hy : z - (m.length : Int) < 0
  · rw [if_pos hy]
    exact sb rfl (st (by omega) rfl)
  rw [if_neg hy]
  refine sb rfl (sf hy ?_)
  have hml : m.length ≤ 1048576 := by omega
  have ho := laws_toOpSS_eq l hl hx K (by omega)
  have hi := laws_toCallS_eq m hml K (by omega)
  obtain ⟨t, h1, h2⟩ := hist_both a b c (l.map fun x => x.map cvOp) (m.map cvCall) (by simpa using hl) (by simpa using hml) (fun x hx => by
    obtain ⟨y, hy, rfl⟩ := List.mem_map.1 hx
    obtain ⟨_, _, q2, q3, _, _⟩ := hm.2 y hy
    exact ⟨(b64 q2).2, (b64 q3).2⟩) K (by omega)
  refine sb (v := (a, b, c)) rfl (sb ho (sb hi (sb h1 (sb ho (sb hi (sb (v := (a, b, c)) rfl (sb h2 (sf (bne_no _) (sb ho (sb (laws_eqOpSS_self _ (by simpa using hl) ?_ K (by omega)) (st rfl (sb hi (sb (laws_eqCallS_self _ (by simpa using hml) K (by omega)) (st rfl rfl))))))))))))))
  intro x hm
  obtain ⟨y, hy, rfl⟩ := List.mem_map.1 hm
  simpa using hx y hy

end Go.Proofs.Ytnkcoooifjjmbaa.Pure
