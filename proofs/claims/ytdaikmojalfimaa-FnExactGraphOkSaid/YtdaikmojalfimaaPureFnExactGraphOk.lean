/- GraphOk of the program answers as the reference does, at every graph of at most 2^20 elements in all, and leaves its argument alone. No condition. -/
import Derived.Test.YtdaikmojalfimaaQFnExactGraphOkx6
namespace Go.Proofs.Ytdaikmojalfimaa.Pure
open Go.RowKit Go.Proofs.Ytdaikmojalfimaa.QFnExactGraphOk Go.Proofs.YtdaikmojalfimaaW.PrintWords Go.Proofs.YtdaikmojalfimaaW.PrintLast Go.Proofs.YtdaikmojalfimaaW.PrintMore
set_option linter.unusedVariables false
set_option linter.unusedSimpArgs false

theorem w64 {x : Int} (h0 : -9223372036854775808 ≤ x) (h1 : x ≤ 9223372036854775807) : wrap64 x = x := by
  unfold wrap64
  omega
theorem wnext (i : Nat) (h : i < 9223372036854775807) : wrap64 ((i : Int) + 1) = ((i + 1 : Nat) : Int) := by
  unfold wrap64
  omega
theorem rdOf_at {α : Type} (d : α) (l : List α) (i : Nat) (h : i < l.length) : rdOf d l (i : Int) = l[i] := by
  simp [rdOf, List.getD, h]
theorem rd_at (l : List Int) (i : Nat) (h : i < l.length) : rd l (i : Int) = l[i] := by
  simp [rd, List.getD, h]
theorem set_step {α : Type} (l m : List α) (i : Nat) (v : α) (hl : l.length = m.length) (hi : i < m.length) (hv : m[i]? = some v)
    (hp : ∀ j, j < i → l[j]? = m[j]?) : (l.set i v).length = m.length ∧ ∀ j, j < i + 1 → (l.set i v)[j]? = m[j]? := by
  refine ⟨by simp [hl], fun j hj => ?_⟩
  rw [List.getElem?_set]
  by_cases e : i = j
  · subst e
    rw [if_pos rfl, if_pos (by omega), hv]
  · rw [if_neg e]
    exact hp j (by omega)
theorem all_eq {α : Type} (l m : List α) (hl : l.length = m.length) (hp : ∀ j, j < m.length → l[j]? = m[j]?) : l = m := by
  apply List.ext_getElem?
  intro j
  by_cases hj : j < m.length
  · exact hp j hj
  · rw [List.getElem?_eq_none (by omega), List.getElem?_eq_none (by omega)]

theorem b64 {n : Int} (h : (Lit.int .i64 n).wf = true) : -9223372036854775808 ≤ n ∧ n ≤ 9223372036854775807 := by
  simp [Lit.wf, IntKind.min, IntKind.max, IntKind.signed, IntKind.bits] at h
  omega
theorem b8 {n : Int} (h : (Lit.int .u8 n).wf = true) : 0 ≤ n ∧ n ≤ 255 := by
  simp [Lit.wf, IntKind.min, IntKind.max, IntKind.signed, IntKind.bits] at h
  omega

theorem laws_toIntS_go (l : List Int) (hl : l.length ≤ 1048576) (d : Nat) : ∀ (k i : Nat) (acc : List Int), acc.length = l.length → i ≤ l.length → l.length - i = d → d < k →
    (∀ j, j < i → acc[j]? = l[j]?) → laws_toIntS.l0 k l acc (i : Int) = some l := by
  induction d with
  | zero =>
    intro k i acc ha hi hd hk hp
    obtain ⟨k, rfl⟩ : ∃ m, k = m + 1 := ⟨k - 1, by omega⟩
    simp only [laws_toIntS.l0]
    rw [if_neg (by omega)]
    exact congrArg some (all_eq acc l ha (fun j hj => hp j (by omega)))
  | succ d ih =>
    intro k i acc ha hi hd hk hp
    obtain ⟨k, rfl⟩ : ∃ m, k = m + 1 := ⟨k - 1, by omega⟩
    simp only [laws_toIntS.l0]
    rw [if_pos (by omega), if_pos (by omega), if_pos (by omega), wnext i (by omega), rd_at l i (by omega), Int.toNat_natCast]
    obtain ⟨h1, h2⟩ := set_step acc l i l[i] ha (by omega) (by simp) hp
    exact ih k (i + 1) _ h1 (by omega) (by omega) (by omega) h2
theorem laws_toIntS_eq (l : List Int) (hl : l.length ≤ 1048576) (k : Nat) (hk : 1048576 < k) : laws_toIntS.f k l = some l := by
  unfold laws_toIntS.f
  rw [if_pos (by omega), if_pos (by omega)]
  exact laws_toIntS_go l hl l.length k 0 _ (by simp) (by omega) (by omega) (by omega) (by intro j hj; omega)

theorem laws_eqIntS_go (l : List Int) (hl : l.length ≤ 1048576) (d : Nat) : ∀ (k i : Nat), i ≤ l.length → l.length - i = d → d < k → laws_eqIntS.l0 k l l (i : Int) = some true := by
  induction d with
  | zero =>
    intro k i hi hd hk
    obtain ⟨k, rfl⟩ : ∃ m, k = m + 1 := ⟨k - 1, by omega⟩
    simp only [laws_eqIntS.l0]
    rw [if_neg (by omega)]
  | succ d ih =>
    intro k i hi hd hk
    obtain ⟨k, rfl⟩ : ∃ m, k = m + 1 := ⟨k - 1, by omega⟩
    simp only [laws_eqIntS.l0]
    rw [if_pos (by omega), if_pos (by omega), if_pos (by omega), wnext i (by omega), if_pos trivial]
    exact ih k (i + 1) (by omega) (by omega) (by omega)
theorem laws_eqIntS_self (l : List Int) (hl : l.length ≤ 1048576) (k : Nat) (hk : 1048576 < k) : laws_eqIntS.f k l l = some true := by
  unfold laws_eqIntS.f
  rw [if_pos rfl]
  exact laws_eqIntS_go l hl l.length k 0 (by omega) (by omega) (by omega)

theorem neg_len (n : Nat) : ¬ ((1 : Int) + (n : Int) < 0) := by omega
theorem bne_no (b : Bool) : ¬ ((b != b) = true) := by simp
theorem ff : ¬ (false = true) := by simp
theorem ntt : ¬ ((!true) = true) := by simp
theorem sb {α β : Type} {o : Option α} {v : α} {f : α → Option β} {r : Option β} (h : o = some v) (k : f v = r) : o.bind f = r := by rw [h]; exact k
theorem st {α : Type} {c : Prop} [Decidable c] {a b r : α} (h : c) (k : a = r) : (if c then a else b) = r := by rw [if_pos h]; exact k
theorem sf {α : Type} {c : Prop} [Decidable c] {a b r : α} (h : ¬ c) (k : b = r) : (if c then a else b) = r := by rw [if_neg h]; exact k

def cvN (x : S72) : S50 := ⟨x.f0, x.f1⟩
theorem T72_at (l : List S72) (i : Nat) (h : i < l.length) : rd_T72 l (i : Int) = l[i] := by
  simp [rd_T72, List.getD, h]
theorem T50_at (l : List S50) (i : Nat) (h : i < l.length) : rd_T50 l (i : Int) = l[i] := by
  simp [rd_T50, List.getD, h]
theorem L1_at (l : List (List Int)) (i : Nat) (h : i < l.length) : rd_L1 l (i : Int) = l[i] := by
  simp [rd_L1, List.getD, h]
theorem toNode_eq (a b : List Int) (ha : a.length ≤ 1048576) (hb : b.length ≤ 1048576) (k : Nat) (hk : 1048576 < k) : laws_toNode.f k a b = some (a, b) := by
  unfold laws_toNode.f
  rw [laws_toIntS_eq a ha k hk, laws_toIntS_eq b hb k hk]
  rfl
theorem eqNode_eq (a b : List Int) (ha : a.length ≤ 1048576) (hb : b.length ≤ 1048576) (k : Nat) (hk : 1048576 < k) : laws_eqNode.f k a b a b = some true := by
  unfold laws_eqNode.f
  rw [laws_eqIntS_self a ha k hk, laws_eqIntS_self b hb k hk]
  rfl

theorem laws_toNodeS_go (l : List S72) (hl : l.length ≤ 1048576) (hx : ∀ x ∈ l, x.f0.length ≤ 1048576 ∧ x.f1.length ≤ 1048576) (d : Nat) : ∀ (k i : Nat) (acc : List S50), acc.length = (l.map cvN).length → i ≤ l.length → l.length - i = d → d + 1048577 < k →
    (∀ j, j < i → acc[j]? = (l.map cvN)[j]?) → laws_toNodeS.l0 k l acc (i : Int) = some (l.map cvN) := by
  have hL : (l.map cvN).length = l.length := by simp
  induction d with
  | zero =>
    intro k i acc ha hi hd hk hp
    obtain ⟨k, rfl⟩ : ∃ m, k = m + 1 := ⟨k - 1, by omega⟩
    simp only [laws_toNodeS.l0]
    rw [if_neg (by omega)]
    exact congrArg some (all_eq acc (l.map cvN) ha (fun j hj => hp j (by omega)))
  | succ d ih =>
    intro k i acc ha hi hd hk hp
    obtain ⟨k, rfl⟩ : ∃ m, k = m + 1 := ⟨k - 1, by omega⟩
    simp only [laws_toNodeS.l0]
    rw [if_pos (by omega), if_pos (by omega), wnext i (by omega), T72_at l i (by omega), toNode_eq l[i].f0 l[i].f1 (hx _ (List.getElem_mem _)).1 (hx _ (List.getElem_mem _)).2 k (by omega)]
    simp only [Option.bind_some]
    rw [if_pos (by omega), Int.toNat_natCast]
    obtain ⟨h1, h2⟩ := set_step acc (l.map cvN) i (cvN l[i]) ha (by omega) (by simp [show i < l.length by omega]) hp
    exact ih k (i + 1) _ h1 (by omega) (by omega) (by omega) h2
theorem laws_toNodeS_eq (l : List S72) (hl : l.length ≤ 1048576) (hx : ∀ x ∈ l, x.f0.length ≤ 1048576 ∧ x.f1.length ≤ 1048576) (k : Nat) (hk : 2097153 < k) : laws_toNodeS.f k l = some (l.map cvN) := by
  unfold laws_toNodeS.f
  rw [if_pos (by omega), if_pos (by omega)]
  exact laws_toNodeS_go l hl hx l.length k 0 _ (by simp) (by omega) (by omega) (by omega) (by intro j hj; omega)

theorem laws_toIntSS_go (l : List (List Int)) (hl : l.length ≤ 1048576) (hx : ∀ x ∈ l, x.length ≤ 1048576) (d : Nat) : ∀ (k i : Nat) (acc : List (List Int)), acc.length = (l.map (fun x => x)).length → i ≤ l.length → l.length - i = d → d + 1048577 < k →
    (∀ j, j < i → acc[j]? = (l.map (fun x => x))[j]?) → laws_toIntSS.l0 k l acc (i : Int) = some (l.map (fun x => x)) := by
  have hL : (l.map (fun x => x)).length = l.length := by simp
  induction d with
  | zero =>
    intro k i acc ha hi hd hk hp
    obtain ⟨k, rfl⟩ : ∃ m, k = m + 1 := ⟨k - 1, by omega⟩
    simp only [laws_toIntSS.l0]
    rw [if_neg (by omega)]
    exact congrArg some (all_eq acc (l.map (fun x => x)) ha (fun j hj => hp j (by omega)))
  | succ d ih =>
    intro k i acc ha hi hd hk hp
    obtain ⟨k, rfl⟩ : ∃ m, k = m + 1 := ⟨k - 1, by omega⟩
    simp only [laws_toIntSS.l0]
    rw [if_pos (by omega), if_pos (by omega), wnext i (by omega), L1_at l i (by omega), laws_toIntS_eq l[i] (hx _ (List.getElem_mem _)) k (by omega)]
    simp only [Option.bind_some]
    rw [if_pos (by omega), Int.toNat_natCast]
    obtain ⟨h1, h2⟩ := set_step acc (l.map (fun x => x)) i ((fun x => x) l[i]) ha (by omega) (by simp [show i < l.length by omega]) hp
    exact ih k (i + 1) _ h1 (by omega) (by omega) (by omega) h2
theorem laws_toIntSS_eq (l : List (List Int)) (hl : l.length ≤ 1048576) (hx : ∀ x ∈ l, x.length ≤ 1048576) (k : Nat) (hk : 2097153 < k) : laws_toIntSS.f k l = some (l.map (fun x => x)) := by
  unfold laws_toIntSS.f
  rw [if_pos (by omega), if_pos (by omega)]
  exact laws_toIntSS_go l hl hx l.length k 0 _ (by simp) (by omega) (by omega) (by omega) (by intro j hj; omega)

theorem laws_eqNodeS_go (l : List S50) (hl : l.length ≤ 1048576) (hx : ∀ x ∈ l, x.f0.length ≤ 1048576 ∧ x.f1.length ≤ 1048576) (d : Nat) : ∀ (k i : Nat), i ≤ l.length → l.length - i = d → d + 1048577 < k → laws_eqNodeS.l0 k l l (i : Int) = some true := by
  induction d with
  | zero =>
    intro k i hi hd hk
    obtain ⟨k, rfl⟩ : ∃ m, k = m + 1 := ⟨k - 1, by omega⟩
    simp only [laws_eqNodeS.l0]
    rw [if_neg (by omega)]
  | succ d ih =>
    intro k i hi hd hk
    obtain ⟨k, rfl⟩ : ∃ m, k = m + 1 := ⟨k - 1, by omega⟩
    simp only [laws_eqNodeS.l0]
    rw [if_pos (by omega), if_pos (by omega), if_pos (by omega), wnext i (by omega), T50_at l i (by omega), eqNode_eq l[i].f0 l[i].f1 (hx _ (List.getElem_mem _)).1 (hx _ (List.getElem_mem _)).2 k (by omega)]
    simp only [Option.bind_some, if_true]
    exact ih k (i + 1) (by omega) (by omega) (by omega)
theorem laws_eqNodeS_self (l : List S50) (hl : l.length ≤ 1048576) (hx : ∀ x ∈ l, x.f0.length ≤ 1048576 ∧ x.f1.length ≤ 1048576) (k : Nat) (hk : 2097153 < k) : laws_eqNodeS.f k l l = some true := by
  unfold laws_eqNodeS.f
  rw [if_pos rfl]
  exact laws_eqNodeS_go l hl hx l.length k 0 (by omega) (by omega) (by omega)

theorem laws_eqIntSS_go (l : List (List Int)) (hl : l.length ≤ 1048576) (hx : ∀ x ∈ l, x.length ≤ 1048576) (d : Nat) : ∀ (k i : Nat), i ≤ l.length → l.length - i = d → d + 1048577 < k → laws_eqIntSS.l0 k l l (i : Int) = some true := by
  induction d with
  | zero =>
    intro k i hi hd hk
    obtain ⟨k, rfl⟩ : ∃ m, k = m + 1 := ⟨k - 1, by omega⟩
    simp only [laws_eqIntSS.l0]
    rw [if_neg (by omega)]
  | succ d ih =>
    intro k i hi hd hk
    obtain ⟨k, rfl⟩ : ∃ m, k = m + 1 := ⟨k - 1, by omega⟩
    simp only [laws_eqIntSS.l0]
    rw [if_pos (by omega), if_pos (by omega), if_pos (by omega), wnext i (by omega), L1_at l i (by omega), laws_eqIntS_self l[i] (hx _ (List.getElem_mem _)) k (by omega)]
    simp only [Option.bind_some, if_true]
    exact ih k (i + 1) (by omega) (by omega) (by omega)
theorem laws_eqIntSS_self (l : List (List Int)) (hl : l.length ≤ 1048576) (hx : ∀ x ∈ l, x.length ≤ 1048576) (k : Nat) (hk : 2097153 < k) : laws_eqIntSS.f k l l = some true := by
  unfold laws_eqIntSS.f
  rw [if_pos rfl]
  exact laws_eqIntSS_go l hl hx l.length k 0 (by omega) (by omega) (by omega)

structure BigG (l0 : List S72) (l1 : List (List Int)) (l2 : List Int) : Prop where
  n0 : l0.length ≤ 1048576
  n1 : ∀ x ∈ l0, x.f0.length ≤ 1048576 ∧ x.f1.length ≤ 1048576
  r0 : l1.length ≤ 1048576
  r1 : ∀ x ∈ l1, x.length ≤ 1048576
  p0 : l2.length ≤ 1048576
theorem toGraph_eq (l0 : List S72) (l1 : List (List Int)) (l2 : List Int) (h : BigG l0 l1 l2) (k : Nat) (hk : 2097153 < k) : laws_toGraph.f k l0 l1 l2 = some (l0.map cvN, l1, l2) := by
  unfold laws_toGraph.f
  rw [laws_toNodeS_eq l0 h.n0 h.n1 k hk, laws_toIntSS_eq l1 h.r0 h.r1 k hk, laws_toIntS_eq l2 h.p0 k (by omega)]
  simp
theorem eqGraph_eq (l0 : List S72) (l1 : List (List Int)) (l2 : List Int) (h : BigG l0 l1 l2) (k : Nat) (hk : 2097153 < k) : laws_eqGraph.f k (l0.map cvN) l1 l2 (l0.map cvN) l1 l2 = some true := by
  unfold laws_eqGraph.f
  rw [laws_eqNodeS_self (l0.map cvN) (by simpa using h.n0) (by intro x hx; obtain ⟨y, hy, rfl⟩ := List.mem_map.1 hx; exact h.n1 y hy) k hk, laws_eqIntSS_self l1 h.r0 h.r1 k hk, laws_eqIntS_self l2 h.p0 k (by omega)]
  rfl
theorem szInt_eq (l : List Int) (a : Int) (ha : 0 ≤ a ∧ a ≤ 1048576) (hl : l.length ≤ maxLen) : laws_szIntS.f l a = some (if a < l.length then -1 else a - (l.length : Int)) := by
  have : (l.length : Int) ≤ 9223372036854775807 := by
    have : maxLen = 9223372036854775807 := rfl
    omega
  unfold laws_szIntS.f
  rw [w64 (by omega) (by omega)]
  by_cases h : a < l.length
  · rw [if_pos h, if_pos (by omega)]
  · rw [if_neg h, if_neg (by omega)]
def leftOk (a r : Int) (P : Prop) : Prop := r < 0 ∨ (r ≤ a ∧ P)
theorem szInt_left (l : List Int) (a : Int) (ha : 0 ≤ a ∧ a ≤ 1048576) (hl : l.length ≤ maxLen) : ∃ r, laws_szIntS.f l a = some r ∧ leftOk a r (l.length ≤ 1048576) := by
  refine ⟨_, szInt_eq l a ha hl, ?_⟩
  unfold leftOk
  by_cases h : a < l.length
  · rw [if_pos h]
    omega
  · rw [if_neg h]
    omega
theorem szNode_left (x y : List Int) (a : Int) (ha : 0 ≤ a ∧ a ≤ 1048576) (hx : x.length ≤ maxLen) (hy : y.length ≤ maxLen) : ∃ r, laws_szNode.f x y a = some r ∧ leftOk a r (x.length ≤ 1048576 ∧ y.length ≤ 1048576) := by
  unfold laws_szNode.f
  obtain ⟨r, h1, h2⟩ := szInt_left x a ha hx
  rw [h1]
  simp only [Option.bind_some]
  by_cases g : r < 0
  · rw [if_pos g]
    exact ⟨_, rfl, Or.inl (by omega)⟩
  · rw [if_neg g]
    have h2 := h2.resolve_left g
    obtain ⟨q, h3, h4⟩ := szInt_left y r (by omega) hy
    rw [h3]
    simp only [Option.bind_some]
    by_cases g2 : q < 0
    · rw [if_pos g2]
      exact ⟨_, rfl, Or.inl (by omega)⟩
    · rw [if_neg g2]
      have h4 := h4.resolve_left g2
      exact ⟨_, rfl, Or.inr ⟨by omega, h2.2, h4.2⟩⟩
theorem szNodeS_go (l : List S72) (hl : l.length ≤ 1048576) (hx : ∀ x ∈ l, x.f0.length ≤ maxLen ∧ x.f1.length ≤ maxLen) (d : Nat) : ∀ (k i : Nat) (a : Int), 0 ≤ a ∧ a ≤ 1048576 → i ≤ l.length → l.length - i = d → d < k → ∃ r, laws_szNodeS.l0 k l a (i : Int) = some r ∧ leftOk a r (∀ j (hj : j < l.length), i ≤ j → l[j].f0.length ≤ 1048576 ∧ l[j].f1.length ≤ 1048576) := by
  induction d with
  | zero =>
    intro k i a ha hi hd hk
    obtain ⟨k, rfl⟩ : ∃ m, k = m + 1 := ⟨k - 1, by omega⟩
    simp only [laws_szNodeS.l0]
    rw [if_neg (by omega)]
    exact ⟨a, rfl, Or.inr ⟨by omega, fun j hj hij => by omega⟩⟩
  | succ d ih =>
    intro k i a ha hi hd hk
    obtain ⟨k, rfl⟩ : ∃ m, k = m + 1 := ⟨k - 1, by omega⟩
    simp only [laws_szNodeS.l0]
    obtain ⟨r, h1, h2⟩ := szNode_left l[i].f0 l[i].f1 a ha (hx _ (List.getElem_mem _)).1 (hx _ (List.getElem_mem _)).2
    rw [if_pos (by omega), if_pos (by omega), wnext i (by omega), T72_at l i (by omega), h1]
    simp only [Option.bind_some]
    by_cases h : r < 0
    · rw [if_pos h]
      exact ⟨-1, rfl, Or.inl (by omega)⟩
    · rw [if_neg h]
      have h2 := h2.resolve_left h
      obtain ⟨q, h3, h4⟩ := ih k (i + 1) r (by omega) (by omega) (by omega) (by omega)
      refine ⟨q, h3, h4.imp id fun h4 => ⟨by omega, fun j hj hij => ?_⟩⟩
      by_cases e : i = j
      · subst e
        exact h2.2
      · exact h4.2 j hj (by omega)
theorem szIntSS_go (l : List (List Int)) (hl : l.length ≤ 1048576) (hx : ∀ x ∈ l, x.length ≤ maxLen) (d : Nat) : ∀ (k i : Nat) (a : Int), 0 ≤ a ∧ a ≤ 1048576 → i ≤ l.length → l.length - i = d → d < k → ∃ r, laws_szIntSS.l0 k l a (i : Int) = some r ∧ leftOk a r (∀ j (hj : j < l.length), i ≤ j → l[j].length ≤ 1048576) := by
  induction d with
  | zero =>
    intro k i a ha hi hd hk
    obtain ⟨k, rfl⟩ : ∃ m, k = m + 1 := ⟨k - 1, by omega⟩
    simp only [laws_szIntSS.l0]
    rw [if_neg (by omega)]
    exact ⟨a, rfl, Or.inr ⟨by omega, fun j hj hij => by omega⟩⟩
  | succ d ih =>
    intro k i a ha hi hd hk
    obtain ⟨k, rfl⟩ : ∃ m, k = m + 1 := ⟨k - 1, by omega⟩
    simp only [laws_szIntSS.l0]
    obtain ⟨r, h1, h2⟩ := szInt_left l[i] a ha (hx _ (List.getElem_mem _))
    rw [if_pos (by omega), if_pos (by omega), wnext i (by omega), L1_at l i (by omega), h1]
    simp only [Option.bind_some]
    by_cases h : r < 0
    · rw [if_pos h]
      exact ⟨-1, rfl, Or.inl (by omega)⟩
    · rw [if_neg h]
      have h2 := h2.resolve_left h
      obtain ⟨q, h3, h4⟩ := ih k (i + 1) r (by omega) (by omega) (by omega) (by omega)
      refine ⟨q, h3, h4.imp id fun h4 => ⟨by omega, fun j hj hij => ?_⟩⟩
      by_cases e : i = j
      · subst e
        exact h2.2
      · exact h4.2 j hj (by omega)
theorem szGraph_eq (l0 : List S72) (l1 : List (List Int)) (l2 : List Int) (h0 : l0.length ≤ maxLen) (h1 : ∀ x ∈ l0, x.f0.length ≤ maxLen ∧ x.f1.length ≤ maxLen) (h2 : l1.length ≤ maxLen) (h3 : ∀ x ∈ l1, x.length ≤ maxLen) (h4 : l2.length ≤ maxLen) (k : Nat) (hk : 1048576 < k) :
    ∃ r, laws_szGraph.f k l0 l1 l2 1048576 = some r ∧ (r < 0 ∨ BigG l0 l1 l2) := by
  have hm : (maxLen : Int) = 9223372036854775807 := rfl
  have a0 : ∃ r, laws_szNodeS.f k l0 1048576 = some r ∧ leftOk 1048576 r (l0.length ≤ 1048576 ∧ ∀ x ∈ l0, x.f0.length ≤ 1048576 ∧ x.f1.length ≤ 1048576) := by
    unfold laws_szNodeS.f
    rw [w64 (by omega) (by omega)]
    by_cases h : (1048576 : Int) - (l0.length : Int) < 0
    · rw [if_pos h]
      exact ⟨-1, rfl, Or.inl (by omega)⟩
    · rw [if_neg h]
      obtain ⟨r, g1, g2⟩ := szNodeS_go l0 (by omega) h1 l0.length k 0 (1048576 - (l0.length : Int)) (by omega) (by omega) (by omega) (by omega)
      refine ⟨r, g1, g2.imp id fun g2 => ⟨by omega, by omega, fun x hx => ?_⟩⟩
      obtain ⟨j, hj, rfl⟩ := List.getElem_of_mem hx
      exact g2.2 j hj (by omega)
  obtain ⟨r0, e0, f0⟩ := a0
  unfold laws_szGraph.f
  rw [e0]
  simp only [Option.bind_some]
  by_cases g0 : r0 < 0
  · rw [if_pos g0]
    exact ⟨-1, rfl, Or.inl (by omega)⟩
  rw [if_neg g0]
  have f0 := f0.resolve_left g0
  have a1 : ∃ r, laws_szIntSS.f k l1 r0 = some r ∧ leftOk r0 r (l1.length ≤ 1048576 ∧ ∀ x ∈ l1, x.length ≤ 1048576) := by
    unfold laws_szIntSS.f
    rw [w64 (by omega) (by omega)]
    by_cases h : r0 - (l1.length : Int) < 0
    · rw [if_pos h]
      exact ⟨-1, rfl, Or.inl (by omega)⟩
    · rw [if_neg h]
      obtain ⟨r, g1, g2⟩ := szIntSS_go l1 (by omega) h3 l1.length k 0 (r0 - (l1.length : Int)) (by omega) (by omega) (by omega) (by omega)
      refine ⟨r, g1, g2.imp id fun g2 => ⟨by omega, by omega, fun x hx => ?_⟩⟩
      obtain ⟨j, hj, rfl⟩ := List.getElem_of_mem hx
      exact g2.2 j hj (by omega)
  obtain ⟨r1, e1, f1⟩ := a1
  rw [e1]
  simp only [Option.bind_some]
  by_cases g1 : r1 < 0
  · rw [if_pos g1]
    exact ⟨-1, rfl, Or.inl (by omega)⟩
  rw [if_neg g1]
  have f1 := f1.resolve_left g1
  obtain ⟨r2, e2, f2⟩ := szInt_left l2 r1 (by omega) h4
  rw [e2]
  simp only [Option.bind_some]
  by_cases g2 : r2 < 0
  · rw [if_pos g2]
    exact ⟨-1, rfl, Or.inl (by omega)⟩
  rw [if_neg g2]
  have f2 := f2.resolve_left g2
  exact ⟨r2, rfl, Or.inr ⟨f0.2.1, f0.2.2, f1.2.1, f1.2.2, f2.2⟩⟩

def nodeBad (N : Int) (x : S50) : Bool := decide (4 < x.f0.length) || (decide (4 < x.f1.length) || x.f0.any (offP (-1) N))
def rootBad (N : Int) (x : List Int) : Bool := decide (8 < x.length) || x.any (offP (-1) N)
theorem refs_go (l : List Int) (N : Int) (hl : l.length ≤ 1048576) (d : Nat) : ∀ (k i : Nat), i ≤ l.length → l.length - i = d → d < k → spec_l5Refs.l0 k l N (i : Int) = some (!((l.drop i).any (offP (-1) N))) := by
  induction d with
  | zero =>
    intro k i hi hd hk
    obtain ⟨k, rfl⟩ : ∃ m, k = m + 1 := ⟨k - 1, by omega⟩
    simp only [spec_l5Refs.l0]
    rw [if_neg (by omega), List.drop_eq_nil_of_le (by omega)]
    rfl
  | succ d ih =>
    intro k i hi hd hk
    obtain ⟨k, rfl⟩ : ∃ m, k = m + 1 := ⟨k - 1, by omega⟩
    simp only [spec_l5Refs.l0]
    rw [if_pos (by omega), if_pos (by omega), wnext i (by omega), rd_at l i (by omega), List.drop_eq_getElem_cons (by omega : i < l.length), List.any_cons]
    by_cases h : l[i] < -1
    · rw [if_pos h, offP, decide_eq_true h]
      rfl
    · rw [if_neg h]
      by_cases h2 : l[i] ≥ N
      · rw [if_pos h2, offP, decide_eq_true (show N ≤ l[i] from h2)]
        simp
      · rw [if_neg h2, ih k (i + 1) (by omega) (by omega) (by omega), offP, decide_eq_false h, decide_eq_false (show ¬ N ≤ l[i] from h2)]
        simp
theorem refs_eq (l : List Int) (N : Int) (hl : l.length ≤ 1048576) (k : Nat) (hk : l.length < k) : spec_l5Refs.f k l N = some (!(l.any (offP (-1) N))) :=
  refs_go l N hl l.length k 0 (by omega) (by omega) hk
theorem spec_nodes (g0 : List S50) (g1 : List (List Int)) (g2 : List Int) (hl : g0.length ≤ 1048576) (d : Nat) : ∀ (k i : Nat), 10 < k → i ≤ g0.length → g0.length - i = d →
    spec_GraphOk.l0 (k + d + 1) (i : Int) g0 g1 g2 = if (g0.drop i).any (nodeBad (g0.length : Int)) = true then some false else spec_GraphOk.l1 k 0 g0 g1 g2 := by
  induction d with
  | zero =>
    intro k i hk hi hd
    simp only [Nat.add_zero, spec_GraphOk.l0]
    rw [if_neg (by omega), List.drop_eq_nil_of_le (by omega), if_neg (by simp)]
  | succ d ih =>
    intro k i hk hi hd
    obtain ⟨q, hq⟩ : ∃ q, k + d + 1 = q := ⟨_, rfl⟩
    rw [show k + (d + 1) + 1 = q + 1 by omega]
    have hn := ih k (i + 1) hk (by omega) (by omega)
    rw [hq] at hn
    simp only [spec_GraphOk.l0]
    rw [if_pos (by omega), if_pos (by omega), wnext i (by omega), T50_at g0 i (by omega), List.drop_eq_getElem_cons (by omega : i < g0.length), List.any_cons, hn]
    by_cases h1 : ((g0[i].f0.length : Nat) : Int) > 4
    · rw [if_pos h1, nodeBad, decide_eq_true (by omega), if_pos (by simp)]
    · rw [if_neg h1]
      by_cases h2 : ((g0[i].f1.length : Nat) : Int) > 4
      · rw [if_pos h2, nodeBad, decide_eq_true (by omega : 4 < g0[i].f1.length), if_pos (by simp)]
      · rw [if_neg h2, refs_eq _ _ (by omega) _ (by omega), nodeBad, decide_eq_false (by omega : ¬ 4 < g0[i].f0.length), decide_eq_false (by omega : ¬ 4 < g0[i].f1.length)]
        simp only [Option.bind_some, Bool.false_or]
        cases g0[i].f0.any (offP (-1) (g0.length : Int)) with
        | true => simp
        | false => simp
theorem impl_nodes (g0 : List S50) (g1 : List (List Int)) (g2 : List Int) (hl : g0.length ≤ 1048576) (d : Nat) : ∀ (k i : Nat), i ≤ g0.length → g0.length - i = d →
    impl_GraphOk.l0 (k + d + 1) g0 (g0.length : Int) (i : Int) g0 g1 g2 = if (g0.drop i).any (nodeBad (g0.length : Int)) = true then some false else impl_GraphOk.l1 k g1 (g1.length : Int) 0 g0 g1 g2 := by
  induction d with
  | zero =>
    intro k i hi hd
    simp only [Nat.add_zero, impl_GraphOk.l0]
    rw [if_neg (by omega), List.drop_eq_nil_of_le (by omega), if_neg (by simp)]
  | succ d ih =>
    intro k i hi hd
    obtain ⟨q, hq⟩ : ∃ q, k + d + 1 = q := ⟨_, rfl⟩
    rw [show k + (d + 1) + 1 = q + 1 by omega]
    have hn := ih k (i + 1) (by omega) (by omega)
    rw [hq] at hn
    simp only [impl_GraphOk.l0]
    rw [if_pos (by omega), if_pos (by omega), if_pos (by omega), wnext i (by omega), T50_at g0 i (by omega), List.drop_eq_getElem_cons (by omega : i < g0.length), List.any_cons, hn]
    by_cases h1 : ((g0[i].f0.length : Nat) : Int) > 4
    · rw [if_pos h1, nodeBad, decide_eq_true (by omega), if_pos (by simp)]
    · rw [if_neg h1]
      by_cases h2 : ((g0[i].f1.length : Nat) : Int) > 4
      · rw [if_pos h2, nodeBad, decide_eq_true (by omega : 4 < g0[i].f1.length), if_pos (by simp)]
      · rw [if_neg h2, impl_Graph_leads.f, nodeBad, decide_eq_false (by omega : ¬ 4 < g0[i].f0.length), decide_eq_false (by omega : ¬ 4 < g0[i].f1.length)]
        simp only [Option.bind_some, Bool.false_or]
        cases g0[i].f0.any (offP (-1) (g0.length : Int)) with
        | true => simp
        | false => simp
theorem spec_roots (g0 : List S50) (g1 : List (List Int)) (g2 : List Int) (hl : g1.length ≤ 1048576) (d : Nat) : ∀ (k i : Nat), 10 < k → i ≤ g1.length → g1.length - i = d →
    spec_GraphOk.l1 (k + d + 1) (i : Int) g0 g1 g2 = if (g1.drop i).any (rootBad (g0.length : Int)) = true then some false else spec_GraphOk.l2 k 0 g0 g1 g2 := by
  induction d with
  | zero =>
    intro k i hk hi hd
    simp only [Nat.add_zero, spec_GraphOk.l1]
    rw [if_neg (by omega), List.drop_eq_nil_of_le (by omega), if_neg (by simp)]
  | succ d ih =>
    intro k i hk hi hd
    obtain ⟨q, hq⟩ : ∃ q, k + d + 1 = q := ⟨_, rfl⟩
    rw [show k + (d + 1) + 1 = q + 1 by omega]
    have hn := ih k (i + 1) hk (by omega) (by omega)
    rw [hq] at hn
    simp only [spec_GraphOk.l1]
    rw [if_pos (by omega), if_pos (by omega), wnext i (by omega), L1_at g1 i (by omega), List.drop_eq_getElem_cons (by omega : i < g1.length), List.any_cons, hn]
    by_cases h1 : ((g1[i].length : Nat) : Int) > 8
    · rw [if_pos h1, rootBad, decide_eq_true (by omega), if_pos (by simp)]
    · rw [if_neg h1, refs_eq _ _ (by omega) _ (by omega), rootBad, decide_eq_false (by omega : ¬ 8 < g1[i].length)]
      simp only [Option.bind_some, Bool.false_or]
      cases g1[i].any (offP (-1) (g0.length : Int)) with
      | true => simp
      | false => simp
theorem impl_roots (g0 : List S50) (g1 : List (List Int)) (g2 : List Int) (hl : g1.length ≤ 1048576) (d : Nat) : ∀ (k i : Nat), i ≤ g1.length → g1.length - i = d →
    impl_GraphOk.l1 (k + d + 1) g1 (g1.length : Int) (i : Int) g0 g1 g2 = some (!((g1.drop i).any (rootBad (g0.length : Int)))) := by
  induction d with
  | zero =>
    intro k i hi hd
    simp only [Nat.add_zero, impl_GraphOk.l1]
    rw [if_neg (by omega), List.drop_eq_nil_of_le (by omega)]
    rfl
  | succ d ih =>
    intro k i hi hd
    obtain ⟨q, hq⟩ : ∃ q, k + d + 1 = q := ⟨_, rfl⟩
    rw [show k + (d + 1) + 1 = q + 1 by omega]
    have hn := ih k (i + 1) (by omega) (by omega)
    rw [hq] at hn
    simp only [impl_GraphOk.l1]
    rw [if_pos (by omega), if_pos (by omega), if_pos (by omega), wnext i (by omega), L1_at g1 i (by omega), List.drop_eq_getElem_cons (by omega : i < g1.length), List.any_cons, hn]
    by_cases h1 : ((g1[i].length : Nat) : Int) > 8
    · rw [if_pos h1, rootBad, decide_eq_true (by omega)]
      simp
    · rw [if_neg h1, impl_Graph_leads.f, rootBad, decide_eq_false (by omega : ¬ 8 < g1[i].length)]
      simp only [Option.bind_some, Bool.false_or]
      cases g1[i].any (offP (-1) (g0.length : Int)) with
      | true => simp
      | false => simp
theorem spec_pins (g0 : List S50) (g1 : List (List Int)) (g2 : List Int) (hl : g2.length ≤ 1048576) (d : Nat) : ∀ (k i : Nat), 10 < k → i ≤ g2.length → g2.length - i = d →
    spec_GraphOk.l2 (k + d + 1) (i : Int) g0 g1 g2 = if (g2.drop i).any (fun n => decide (n < 0)) = true then some false else some (decide (g2.length ≤ 8) && !(g2.any (offP (-1) (g0.length : Int)))) := by
  induction d with
  | zero =>
    intro k i hk hi hd
    simp only [Nat.add_zero, spec_GraphOk.l2]
    rw [if_neg (by omega), List.drop_eq_nil_of_le (by omega)]
    by_cases h : (g2.length : Int) ≤ 8
    · rw [if_pos h, refs_eq _ _ (by omega) _ (by omega), decide_eq_true (by omega : g2.length ≤ 8)]
      simp
    · rw [if_neg h, decide_eq_false (by omega : ¬ g2.length ≤ 8)]
      simp
  | succ d ih =>
    intro k i hk hi hd
    obtain ⟨q, hq⟩ : ∃ q, k + d + 1 = q := ⟨_, rfl⟩
    rw [show k + (d + 1) + 1 = q + 1 by omega]
    have hn := ih k (i + 1) hk (by omega) (by omega)
    rw [hq] at hn
    simp only [spec_GraphOk.l2]
    rw [if_pos (by omega), if_pos (by omega), wnext i (by omega), rd_at g2 i (by omega), List.drop_eq_getElem_cons (by omega : i < g2.length), List.any_cons, hn]
    by_cases h1 : g2[i] < 0
    · rw [if_pos h1, decide_eq_true h1, if_pos (by simp)]
    · rw [if_neg h1, decide_eq_false h1, Bool.false_or]
theorem pins_off (N : Int) : ∀ l : List Int, l.any (offP 0 N) = (l.any (fun n => decide (n < 0)) || l.any (offP (-1) N))
  | [] => rfl
  | x :: r => by
    rw [List.any_cons, List.any_cons, List.any_cons, pins_off N r]
    by_cases h : x < 0
    · rw [offP, decide_eq_true h]
      simp
    · rw [offP, offP, decide_eq_false h, decide_eq_false (by omega : ¬ x < -1)]
      cases decide (N ≤ x) <;> cases r.any (fun n => decide (n < 0)) <;> simp
def gOkB (g0 : List S50) (g1 : List (List Int)) (g2 : List Int) : Bool := decide (g0.length ≤ 200 ∧ 1 ≤ g1.length ∧ g1.length ≤ 3) && (!(g0.any (nodeBad (g0.length : Int))) && (!(g1.any (rootBad (g0.length : Int))) && (decide (g2.length ≤ 8) && !(g2.any (offP 0 (g0.length : Int))))))
theorem graph_spec (g0 : List S50) (g1 : List (List Int)) (g2 : List Int) (h0 : g0.length ≤ 1048576) (h1 : g1.length ≤ 1048576) (h2 : g2.length ≤ 1048576) (K : Nat) (hK : 3145800 < K) : spec_GraphOk.f K g0 g1 g2 = some (gOkB g0 g1 g2) := by
  have bad : spec_GraphOk.j0 K true g0 g1 g2 = some false := by
    obtain ⟨K, rfl⟩ : ∃ m, K = m + 1 := ⟨K - 1, by omega⟩
    simp [spec_GraphOk.j0]
  unfold spec_GraphOk.f gOkB
  by_cases c1 : (g0.length : Int) > 200
  · rw [if_pos c1, bad, decide_eq_false (by omega)]
    rfl
  by_cases c2 : (g1.length : Int) < 1
  · rw [if_neg c1, if_pos c2, bad, decide_eq_false (by omega)]
    rfl
  rw [if_neg c1, if_neg c2]
  by_cases c3 : (g1.length : Int) > 3
  · rw [decide_eq_true c3, bad, decide_eq_false (by omega)]
    rfl
  rw [decide_eq_false c3, decide_eq_true (by omega)]
  obtain ⟨K, rfl⟩ : ∃ m, K = ((m + g2.length + 1) + g1.length + 1) + g0.length + 1 + 1 := ⟨K - 4 - g2.length - g1.length - g0.length, by omega⟩
  simp only [spec_GraphOk.j0, Bool.false_eq_true, if_false]
  have s0 := spec_nodes g0 g1 g2 h0 g0.length ((K + g2.length + 1) + g1.length + 1) 0 (by omega) (by omega) (by omega)
  have s1 := spec_roots g0 g1 g2 h1 g1.length (K + g2.length + 1) 0 (by omega) (by omega) (by omega)
  have s2 := spec_pins g0 g1 g2 h2 g2.length K 0 (by omega) (by omega) (by omega)
  rw [List.drop_zero] at s0 s1 s2
  have z : ((0 : Nat) : Int) = 0 := rfl
  rw [z] at s0 s1 s2
  rw [s0, s1, s2, pins_off]
  cases g0.any (nodeBad (g0.length : Int)) <;> cases g1.any (rootBad (g0.length : Int)) <;> cases g2.any (fun n => decide (n < 0)) <;> simp
theorem graph_impl (g0 : List S50) (g1 : List (List Int)) (g2 : List Int) (h0 : g0.length ≤ 1048576) (h1 : g1.length ≤ 1048576) (K : Nat) (hK : 3145800 < K) : impl_GraphOk.f K g0 g1 g2 = some (gOkB g0 g1 g2) := by
  have bad : impl_GraphOk.j0 K true g0 g1 g2 = some false := by
    obtain ⟨K, rfl⟩ : ∃ m, K = m + 1 := ⟨K - 1, by omega⟩
    simp [impl_GraphOk.j0]
  unfold impl_GraphOk.f gOkB
  by_cases c1 : (g0.length : Int) > 200
  · rw [if_pos c1, bad, decide_eq_false (by omega)]
    rfl
  by_cases c2 : (g1.length : Int) < 1
  · rw [if_neg c1, if_pos c2, bad, decide_eq_false (by omega)]
    rfl
  by_cases c3 : (g1.length : Int) > 3
  · rw [if_neg c1, if_neg c2, if_pos c3, bad, decide_eq_false (by omega)]
    rfl
  rw [if_neg c1, if_neg c2, if_neg c3, decide_eq_true (by omega)]
  by_cases c4 : (g2.length : Int) > 8
  · rw [if_pos c4, bad, decide_eq_false (by omega)]
    simp
  rw [if_neg c4, decide_eq_true (by omega), impl_Graph_leads.f]
  simp only [Option.bind_some]
  cases hp : g2.any (offP 0 (g0.length : Int)) with
  | true =>
    rw [show (!!true) = true from rfl, bad]
    simp
  | false =>
    obtain ⟨K, rfl⟩ : ∃ m, K = (m + g1.length + 1) + g0.length + 1 + 1 := ⟨K - 3 - g1.length - g0.length, by omega⟩
    simp only [impl_GraphOk.j0, Bool.not_false, Bool.not_true, Bool.false_eq_true, if_false]
    have s0 := impl_nodes g0 g1 g2 h0 g0.length (K + g1.length + 1) 0 (by omega) (by omega)
    have s1 := impl_roots g0 g1 g2 h1 g1.length K 0 (by omega) (by omega)
    rw [List.drop_zero] at s0 s1
    have z : ((0 : Nat) : Int) = 0 := rfl
    rw [z] at s0 s1
    rw [s0, s1]
    cases g0.any (nodeBad (g0.length : Int)) <;> simp

theorem FnExactGraphOk (l0 : List S72) (l1 : List (List Int)) (l2 : List Int) (h0 : l0.length ≤ maxLen ∧ ∀ x ∈ l0, (x.f0.length ≤ maxLen ∧ ∀ y ∈ x.f0, (Lit.int .i64 y).wf = true) ∧ (x.f1.length ≤ maxLen ∧ ∀ y ∈ x.f1, (Lit.int .i64 y).wf = true)) (h1 : l1.length ≤ maxLen ∧ ∀ x ∈ l1, x.length ≤ maxLen ∧ ∀ y ∈ x, (Lit.int .i64 y).wf = true) (h2 : l2.length ≤ maxLen ∧ ∀ y ∈ l2, (Lit.int .i64 y).wf = true) : ∃ k, laws_FnExactGraphOk.f k l0 l1 l2 = some true := by
  obtain ⟨K, hK⟩ : ∃ K, 3145800 < K := ⟨3145801, by omega⟩
  refine ⟨K, ?_⟩
  obtain ⟨z, hz, hz2⟩ := szGraph_eq l0 l1 l2 h0.1 (fun x hx => ⟨(h0.2 x hx).1.1, (h0.2 x hx).2.1⟩) h1.1 (fun x hx => (h1.2 x hx).1) h2.1 K (by omega)
  unfold laws_FnExactGraphOk.f
  refine sb hz ?_
  by_cases hz0 : z < 0
  · exact st hz0 rfl
  have hB := hz2.resolve_left hz0
  have ho := toGraph_eq l0 l1 l2 hB K (by omega)
  have hl : (l0.map cvN).length ≤ 1048576 := by simpa using hB.n0
  refine sf hz0 (sb ho ?_)
  dsimp only
  refine sb (graph_spec _ _ _ hl hB.r0 hB.p0 K hK) (sb ho ?_)
  dsimp only
  refine sb (graph_impl _ _ _ hl hB.r0 K hK) (sf (bne_no _) (sb ho ?_))
  dsimp only
  exact sb (eqGraph_eq l0 l1 l2 hB K (by omega)) (st rfl rfl)

end Go.Proofs.Ytdaikmojalfimaa.Pure
