/- PathFrom of the program answers as the reference does, at every graph of at most 2^20 elements in all, at every thread and node, leaves its argument alone, and answers with new memory each time. No condition. -/
import Derived.Test.YtdaikmojalfimaaQFnExactPathFromx8
namespace Go.Proofs.Ytdaikmojalfimaa.Pure
open Go.RowKit Go.Proofs.Ytdaikmojalfimaa.QFnExactPathFrom Go.Proofs.YtdaikmojalfimaaW.PrintWords Go.Proofs.YtdaikmojalfimaaW.PrintLast Go.Proofs.YtdaikmojalfimaaW.PrintMore
set_option linter.unusedVariables false
set_option linter.unusedSimpArgs false

theorem w64 {x : Int} (h0 : -9223372036854775808 ≤ x) (h1 : x ≤ 9223372036854775807) : wrap64 x = x := by
  unfold wrap64
  omega
theorem wnext (i : Nat) (h : i < 9223372036854775807) : wrap64 ((i : Int) + 1) = ((i + 1 : Nat) : Int) := by
  unfold wrap64
  omega
theorem rdOf_at {α : Type} (d : α) (l : List α) (i : Nat) (h : i < l.length) : rdOf d l (i : Int) = l[i] := by
  simp [rdOf, List.getD, h]
theorem rd_at (l : List Int) (i : Nat) (h : i < l.length) : rd l (i : Int) = l[i] := by
  simp [rd, List.getD, h]
theorem set_step {α : Type} (l m : List α) (i : Nat) (v : α) (hl : l.length = m.length) (hi : i < m.length) (hv : m[i]? = some v)
    (hp : ∀ j, j < i → l[j]? = m[j]?) : (l.set i v).length = m.length ∧ ∀ j, j < i + 1 → (l.set i v)[j]? = m[j]? := by
  refine ⟨by simp [hl], fun j hj => ?_⟩
  rw [List.getElem?_set]
  by_cases e : i = j
  · subst e
    rw [if_pos rfl, if_pos (by omega), hv]
  · rw [if_neg e]
    exact hp j (by omega)
theorem all_eq {α : Type} (l m : List α) (hl : l.length = m.length) (hp : ∀ j, j < m.length → l[j]? = m[j]?) : l = m := by
  apply List.ext_getElem?
  intro j
  by_cases hj : j < m.length
  · exact hp j hj
  · rw [List.getElem?_eq_none (by omega), List.getElem?_eq_none (by omega)]

theorem b64 {n : Int} (h : (Lit.int .i64 n).wf = true) : -9223372036854775808 ≤ n ∧ n ≤ 9223372036854775807 := by
  simp [Lit.wf, IntKind.min, IntKind.max, IntKind.signed, IntKind.bits] at h
  omega
theorem b8 {n : Int} (h : (Lit.int .u8 n).wf = true) : 0 ≤ n ∧ n ≤ 255 := by
  simp [Lit.wf, IntKind.min, IntKind.max, IntKind.signed, IntKind.bits] at h
  omega

theorem laws_toIntS_go (l : List Int) (hl : l.length ≤ 1048576) (d : Nat) : ∀ (k i : Nat) (acc : List Int), acc.length = l.length → i ≤ l.length → l.length - i = d → d < k →
    (∀ j, j < i → acc[j]? = l[j]?) → laws_toIntS.l0 k l acc (i : Int) = some l := by
  induction d with
  | zero =>
    intro k i acc ha hi hd hk hp
    obtain ⟨k, rfl⟩ : ∃ m, k = m + 1 := ⟨k - 1, by omega⟩
    simp only [laws_toIntS.l0]
    rw [if_neg (by omega)]
    exact congrArg some (all_eq acc l ha (fun j hj => hp j (by omega)))
  | succ d ih =>
    intro k i acc ha hi hd hk hp
    obtain ⟨k, rfl⟩ : ∃ m, k = m + 1 := ⟨k - 1, by omega⟩
    simp only [laws_toIntS.l0]
    rw [if_pos (by omega), if_pos (by omega), if_pos (by omega), wnext i (by omega), rd_at l i (by omega), Int.toNat_natCast]
    obtain ⟨h1, h2⟩ := set_step acc l i l[i] ha (by omega) (by simp) hp
    exact ih k (i + 1) _ h1 (by omega) (by omega) (by omega) h2
theorem laws_toIntS_eq (l : List Int) (hl : l.length ≤ 1048576) (k : Nat) (hk : 1048576 < k) : laws_toIntS.f k l = some l := by
  unfold laws_toIntS.f
  rw [if_pos (by omega), if_pos (by omega)]
  exact laws_toIntS_go l hl l.length k 0 _ (by simp) (by omega) (by omega) (by omega) (by intro j hj; omega)

theorem laws_eqIntS_go (l : List Int) (hl : l.length ≤ 1048576) (d : Nat) : ∀ (k i : Nat), i ≤ l.length → l.length - i = d → d < k → laws_eqIntS.l0 k l l (i : Int) = some true := by
  induction d with
  | zero =>
    intro k i hi hd hk
    obtain ⟨k, rfl⟩ : ∃ m, k = m + 1 := ⟨k - 1, by omega⟩
    simp only [laws_eqIntS.l0]
    rw [if_neg (by omega)]
  | succ d ih =>
    intro k i hi hd hk
    obtain ⟨k, rfl⟩ : ∃ m, k = m + 1 := ⟨k - 1, by omega⟩
    simp only [laws_eqIntS.l0]
    rw [if_pos (by omega), if_pos (by omega), if_pos (by omega), wnext i (by omega), if_pos trivial]
    exact ih k (i + 1) (by omega) (by omega) (by omega)
theorem laws_eqIntS_self (l : List Int) (hl : l.length ≤ 1048576) (k : Nat) (hk : 1048576 < k) : laws_eqIntS.f k l l = some true := by
  unfold laws_eqIntS.f
  rw [if_pos rfl]
  exact laws_eqIntS_go l hl l.length k 0 (by omega) (by omega) (by omega)

def laws_markIntS_list (l : List Int) (n : Int) : List Int := (List.range l.length).map fun j : Nat => (fun m : Int => m) (n + (j : Int))
theorem laws_markIntS_list_length (l : List Int) (n : Int) : (laws_markIntS_list l n).length = l.length := by simp [laws_markIntS_list]
theorem laws_markIntS_list_at (l : List Int) (n : Int) (i : Nat) (h : i < l.length) : (laws_markIntS_list l n)[i]? = some ((fun m : Int => m) (n + (i : Int))) := by simp [laws_markIntS_list, h]
theorem laws_markIntS_go (l : List Int) (n : Int) (hn : 0 ≤ n ∧ n ≤ 4611686018427387904) (hl : l.length ≤ 1048576) (d : Nat) : ∀ (k i : Nat) (acc : List Int), acc.length = (laws_markIntS_list l n).length → i ≤ l.length → l.length - i = d → d < k →
    (∀ j, j < i → acc[j]? = (laws_markIntS_list l n)[j]?) → laws_markIntS.l0 k acc (n + (i : Int)) (i : Int) = some (n + (l.length : Int), laws_markIntS_list l n) := by
  induction d with
  | zero =>
    intro k i acc ha hi hd hk hp
    obtain ⟨k, rfl⟩ : ∃ m, k = m + 1 := ⟨k - 1, by omega⟩
    have hL := laws_markIntS_list_length l n
    simp only [laws_markIntS.l0]
    rw [if_neg (by omega), all_eq acc (laws_markIntS_list l n) ha (fun j hj => hp j (by omega)), show i = l.length by omega]
  | succ d ih =>
    intro k i acc ha hi hd hk hp
    obtain ⟨k, rfl⟩ : ∃ m, k = m + 1 := ⟨k - 1, by omega⟩
    have hL := laws_markIntS_list_length l n
    simp only [laws_markIntS.l0]
    rw [if_pos (by omega), if_pos (by omega), wnext i (by omega), Int.toNat_natCast, w64 (by omega) (by omega), show n + (i : Int) + 1 = n + ((i + 1 : Nat) : Int) by omega]
    obtain ⟨h1, h2⟩ := set_step acc (laws_markIntS_list l n) i _ ha (by omega) (laws_markIntS_list_at l n i (by omega)) hp
    exact ih k (i + 1) _ h1 (by omega) (by omega) (by omega) h2
theorem laws_markIntS_eq (l : List Int) (n : Int) (hn : 0 ≤ n ∧ n ≤ 4611686018427387904) (hl : l.length ≤ 1048576) (k : Nat) (hk : 1048576 < k) : laws_markIntS.f k l n = some (n + (l.length : Int), laws_markIntS_list l n) := by
  have hL := laws_markIntS_list_length l n
  have h := laws_markIntS_go l n hn hl l.length k 0 l (by omega) (by omega) (by omega) (by omega) (by intro j hj; omega)
  unfold laws_markIntS.f
  simpa using h

theorem laws_heldIntS_go (l : List Int) (n : Int) (hn : 0 ≤ n ∧ n ≤ 4611686018427387904) (hl : l.length ≤ 1048576) (d : Nat) : ∀ (k i : Nat), i ≤ l.length → l.length - i = d → d < k →
    laws_heldIntS.l0 k (laws_markIntS_list l n) (n + (i : Int)) (i : Int) = some (n + (l.length : Int)) := by
  induction d with
  | zero =>
    intro k i hi hd hk
    obtain ⟨k, rfl⟩ : ∃ m, k = m + 1 := ⟨k - 1, by omega⟩
    have hL := laws_markIntS_list_length l n
    simp only [laws_heldIntS.l0]
    rw [if_neg (by omega), show i = l.length by omega]
  | succ d ih =>
    intro k i hi hd hk
    obtain ⟨k, rfl⟩ : ∃ m, k = m + 1 := ⟨k - 1, by omega⟩
    have hL := laws_markIntS_list_length l n
    have hv : (laws_markIntS_list l n)[i] = (fun m : Int => m) (n + (i : Int)) := by simp [laws_markIntS_list]
    simp only [laws_heldIntS.l0]
    rw [if_pos (by omega), if_pos (by omega), rd_at (laws_markIntS_list l n) i (by omega), hv, if_pos rfl, wnext i (by omega), w64 (by omega) (by omega), show n + (i : Int) + 1 = n + ((i + 1 : Nat) : Int) by omega]
    exact ih k (i + 1) (by omega) (by omega) (by omega)
theorem laws_heldIntS_eq (l : List Int) (n : Int) (hn : 0 ≤ n ∧ n ≤ 4611686018427387904) (hl : l.length ≤ 1048576) (k : Nat) (hk : 1048576 < k) : laws_heldIntS.f k (laws_markIntS_list l n) n = some (n + (l.length : Int)) := by
  have h := laws_heldIntS_go l n hn hl l.length k 0 (by omega) (by omega) (by omega)
  unfold laws_heldIntS.f
  simpa using h

theorem neg_len (n : Nat) : ¬ ((1 : Int) + (n : Int) < 0) := by omega
theorem bne_no (b : Bool) : ¬ ((b != b) = true) := by simp
theorem ff : ¬ (false = true) := by simp
theorem ntt : ¬ ((!true) = true) := by simp
theorem sb {α β : Type} {o : Option α} {v : α} {f : α → Option β} {r : Option β} (h : o = some v) (k : f v = r) : o.bind f = r := by rw [h]; exact k
theorem st {α : Type} {c : Prop} [Decidable c] {a b r : α} (h : c) (k : a = r) : (if c then a else b) = r := by rw [if_pos h]; exact k
theorem sf {α : Type} {c : Prop} [Decidable c] {a b r : α} (h : ¬ c) (k : b = r) : (if c then a else b) = r := by rw [if_neg h]; exact k

def cvN (x : S72) : S50 := ⟨x.f0, x.f1⟩
theorem T72_at (l : List S72) (i : Nat) (h : i < l.length) : rd_T72 l (i : Int) = l[i] := by
  simp [rd_T72, List.getD, h]
theorem T50_at (l : List S50) (i : Nat) (h : i < l.length) : rd_T50 l (i : Int) = l[i] := by
  simp [rd_T50, List.getD, h]
theorem L1_at (l : List (List Int)) (i : Nat) (h : i < l.length) : rd_L1 l (i : Int) = l[i] := by
  simp [rd_L1, List.getD, h]
theorem toNode_eq (a b : List Int) (ha : a.length ≤ 1048576) (hb : b.length ≤ 1048576) (k : Nat) (hk : 1048576 < k) : laws_toNode.f k a b = some (a, b) := by
  unfold laws_toNode.f
  rw [laws_toIntS_eq a ha k hk, laws_toIntS_eq b hb k hk]
  rfl
theorem eqNode_eq (a b : List Int) (ha : a.length ≤ 1048576) (hb : b.length ≤ 1048576) (k : Nat) (hk : 1048576 < k) : laws_eqNode.f k a b a b = some true := by
  unfold laws_eqNode.f
  rw [laws_eqIntS_self a ha k hk, laws_eqIntS_self b hb k hk]
  rfl

theorem laws_toNodeS_go (l : List S72) (hl : l.length ≤ 1048576) (hx : ∀ x ∈ l, x.f0.length ≤ 1048576 ∧ x.f1.length ≤ 1048576) (d : Nat) : ∀ (k i : Nat) (acc : List S50), acc.length = (l.map cvN).length → i ≤ l.length → l.length - i = d → d + 1048577 < k →
    (∀ j, j < i → acc[j]? = (l.map cvN)[j]?) → laws_toNodeS.l0 k l acc (i : Int) = some (l.map cvN) := by
  have hL : (l.map cvN).length = l.length := by simp
  induction d with
  | zero =>
    intro k i acc ha hi hd hk hp
    obtain ⟨k, rfl⟩ : ∃ m, k = m + 1 := ⟨k - 1, by omega⟩
    simp only [laws_toNodeS.l0]
    rw [if_neg (by omega)]
    exact congrArg some (all_eq acc (l.map cvN) ha (fun j hj => hp j (by omega)))
  | succ d ih =>
    intro k i acc ha hi hd hk hp
    obtain ⟨k, rfl⟩ : ∃ m, k = m + 1 := ⟨k - 1, by omega⟩
    simp only [laws_toNodeS.l0]
    rw [if_pos (by omega), if_pos (by omega), wnext i (by omega), T72_at l i (by omega), toNode_eq l[i].f0 l[i].f1 (hx _ (List.getElem_mem _)).1 (hx _ (List.getElem_mem _)).2 k (by omega)]
    simp only [Option.bind_some]
    rw [if_pos (by omega), Int.toNat_natCast]
    obtain ⟨h1, h2⟩ := set_step acc (l.map cvN) i (cvN l[i]) ha (by omega) (by simp [show i < l.length by omega]) hp
    exact ih k (i + 1) _ h1 (by omega) (by omega) (by omega) h2
theorem laws_toNodeS_eq (l : List S72) (hl : l.length ≤ 1048576) (hx : ∀ x ∈ l, x.f0.length ≤ 1048576 ∧ x.f1.length ≤ 1048576) (k : Nat) (hk : 2097153 < k) : laws_toNodeS.f k l = some (l.map cvN) := by
  unfold laws_toNodeS.f
  rw [if_pos (by omega), if_pos (by omega)]
  exact laws_toNodeS_go l hl hx l.length k 0 _ (by simp) (by omega) (by omega) (by omega) (by intro j hj; omega)

theorem laws_toIntSS_go (l : List (List Int)) (hl : l.length ≤ 1048576) (hx : ∀ x ∈ l, x.length ≤ 1048576) (d : Nat) : ∀ (k i : Nat) (acc : List (List Int)), acc.length = (l.map (fun x => x)).length → i ≤ l.length → l.length - i = d → d + 1048577 < k →
    (∀ j, j < i → acc[j]? = (l.map (fun x => x))[j]?) → laws_toIntSS.l0 k l acc (i : Int) = some (l.map (fun x => x)) := by
  have hL : (l.map (fun x => x)).length = l.length := by simp
  induction d with
  | zero =>
    intro k i acc ha hi hd hk hp
    obtain ⟨k, rfl⟩ : ∃ m, k = m + 1 := ⟨k - 1, by omega⟩
    simp only [laws_toIntSS.l0]
    rw [if_neg (by omega)]
    exact congrArg some (all_eq acc (l.map (fun x => x)) ha (fun j hj => hp j (by omega)))
  | succ d ih =>
    intro k i acc ha hi hd hk hp
    obtain ⟨k, rfl⟩ : ∃ m, k = m + 1 := ⟨k - 1, by omega⟩
    simp only [laws_toIntSS.l0]
    rw [if_pos (by omega), if_pos (by omega), wnext i (by omega), L1_at l i (by omega), laws_toIntS_eq l[i] (hx _ (List.getElem_mem _)) k (by omega)]
    simp only [Option.bind_some]
    rw [if_pos (by omega), Int.toNat_natCast]
    obtain ⟨h1, h2⟩ := set_step acc (l.map (fun x => x)) i ((fun x => x) l[i]) ha (by omega) (by simp [show i < l.length by omega]) hp
    exact ih k (i + 1) _ h1 (by omega) (by omega) (by omega) h2
theorem laws_toIntSS_eq (l : List (List Int)) (hl : l.length ≤ 1048576) (hx : ∀ x ∈ l, x.length ≤ 1048576) (k : Nat) (hk : 2097153 < k) : laws_toIntSS.f k l = some (l.map (fun x => x)) := by
  unfold laws_toIntSS.f
  rw [if_pos (by omega), if_pos (by omega)]
  exact laws_toIntSS_go l hl hx l.length k 0 _ (by simp) (by omega) (by omega) (by omega) (by intro j hj; omega)

theorem laws_eqNodeS_go (l : List S50) (hl : l.length ≤ 1048576) (hx : ∀ x ∈ l, x.f0.length ≤ 1048576 ∧ x.f1.length ≤ 1048576) (d : Nat) : ∀ (k i : Nat), i ≤ l.length → l.length - i = d → d + 1048577 < k → laws_eqNodeS.l0 k l l (i : Int) = some true := by
  induction d with
  | zero =>
    intro k i hi hd hk
    obtain ⟨k, rfl⟩ : ∃ m, k = m + 1 := ⟨k - 1, by omega⟩
    simp only [laws_eqNodeS.l0]
    rw [if_neg (by omega)]
  | succ d ih =>
    intro k i hi hd hk
    obtain ⟨k, rfl⟩ : ∃ m, k = m + 1 := ⟨k - 1, by omega⟩
    simp only [laws_eqNodeS.l0]
    rw [if_pos (by omega), if_pos (by omega), if_pos (by omega), wnext i (by omega), T50_at l i (by omega), eqNode_eq l[i].f0 l[i].f1 (hx _ (List.getElem_mem _)).1 (hx _ (List.getElem_mem _)).2 k (by omega)]
    simp only [Option.bind_some, if_true]
    exact ih k (i + 1) (by omega) (by omega) (by omega)
theorem laws_eqNodeS_self (l : List S50) (hl : l.length ≤ 1048576) (hx : ∀ x ∈ l, x.f0.length ≤ 1048576 ∧ x.f1.length ≤ 1048576) (k : Nat) (hk : 2097153 < k) : laws_eqNodeS.f k l l = some true := by
  unfold laws_eqNodeS.f
  rw [if_pos rfl]
  exact laws_eqNodeS_go l hl hx l.length k 0 (by omega) (by omega) (by omega)

theorem laws_eqIntSS_go (l : List (List Int)) (hl : l.length ≤ 1048576) (hx : ∀ x ∈ l, x.length ≤ 1048576) (d : Nat) : ∀ (k i : Nat), i ≤ l.length → l.length - i = d → d + 1048577 < k → laws_eqIntSS.l0 k l l (i : Int) = some true := by
  induction d with
  | zero =>
    intro k i hi hd hk
    obtain ⟨k, rfl⟩ : ∃ m, k = m + 1 := ⟨k - 1, by omega⟩
    simp only [laws_eqIntSS.l0]
    rw [if_neg (by omega)]
  | succ d ih =>
    intro k i hi hd hk
    obtain ⟨k, rfl⟩ : ∃ m, k = m + 1 := ⟨k - 1, by omega⟩
    simp only [laws_eqIntSS.l0]
    rw [if_pos (by omega), if_pos (by omega), if_pos (by omega), wnext i (by omega), L1_at l i (by omega), laws_eqIntS_self l[i] (hx _ (List.getElem_mem _)) k (by omega)]
    simp only [Option.bind_some, if_true]
    exact ih k (i + 1) (by omega) (by omega) (by omega)
theorem laws_eqIntSS_self (l : List (List Int)) (hl : l.length ≤ 1048576) (hx : ∀ x ∈ l, x.length ≤ 1048576) (k : Nat) (hk : 2097153 < k) : laws_eqIntSS.f k l l = some true := by
  unfold laws_eqIntSS.f
  rw [if_pos rfl]
  exact laws_eqIntSS_go l hl hx l.length k 0 (by omega) (by omega) (by omega)

structure BigG (l0 : List S72) (l1 : List (List Int)) (l2 : List Int) : Prop where
  n0 : l0.length ≤ 1048576
  n1 : ∀ x ∈ l0, x.f0.length ≤ 1048576 ∧ x.f1.length ≤ 1048576
  r0 : l1.length ≤ 1048576
  r1 : ∀ x ∈ l1, x.length ≤ 1048576
  p0 : l2.length ≤ 1048576
theorem toGraph_eq (l0 : List S72) (l1 : List (List Int)) (l2 : List Int) (h : BigG l0 l1 l2) (k : Nat) (hk : 2097153 < k) : laws_toGraph.f k l0 l1 l2 = some (l0.map cvN, l1, l2) := by
  unfold laws_toGraph.f
  rw [laws_toNodeS_eq l0 h.n0 h.n1 k hk, laws_toIntSS_eq l1 h.r0 h.r1 k hk, laws_toIntS_eq l2 h.p0 k (by omega)]
  simp
theorem eqGraph_eq (l0 : List S72) (l1 : List (List Int)) (l2 : List Int) (h : BigG l0 l1 l2) (k : Nat) (hk : 2097153 < k) : laws_eqGraph.f k (l0.map cvN) l1 l2 (l0.map cvN) l1 l2 = some true := by
  unfold laws_eqGraph.f
  rw [laws_eqNodeS_self (l0.map cvN) (by simpa using h.n0) (by intro x hx; obtain ⟨y, hy, rfl⟩ := List.mem_map.1 hx; exact h.n1 y hy) k hk, laws_eqIntSS_self l1 h.r0 h.r1 k hk, laws_eqIntS_self l2 h.p0 k (by omega)]
  rfl
theorem szInt_eq (l : List Int) (a : Int) (ha : 0 ≤ a ∧ a ≤ 1048576) (hl : l.length ≤ maxLen) : laws_szIntS.f l a = some (if a < l.length then -1 else a - (l.length : Int)) := by
  have : (l.length : Int) ≤ 9223372036854775807 := by
    have : maxLen = 9223372036854775807 := rfl
    omega
  unfold laws_szIntS.f
  rw [w64 (by omega) (by omega)]
  by_cases h : a < l.length
  · rw [if_pos h, if_pos (by omega)]
  · rw [if_neg h, if_neg (by omega)]
def leftOk (a r : Int) (P : Prop) : Prop := r < 0 ∨ (r ≤ a ∧ P)
theorem szInt_left (l : List Int) (a : Int) (ha : 0 ≤ a ∧ a ≤ 1048576) (hl : l.length ≤ maxLen) : ∃ r, laws_szIntS.f l a = some r ∧ leftOk a r (l.length ≤ 1048576) := by
  refine ⟨_, szInt_eq l a ha hl, ?_⟩
  unfold leftOk
  by_cases h : a < l.length
  · rw [if_pos h]
    omega
  · rw [if_neg h]
    omega
theorem szNode_left (x y : List Int) (a : Int) (ha : 0 ≤ a ∧ a ≤ 1048576) (hx : x.length ≤ maxLen) (hy : y.length ≤ maxLen) : ∃ r, laws_szNode.f x y a = some r ∧ leftOk a r (x.length ≤ 1048576 ∧ y.length ≤ 1048576) := by
  unfold laws_szNode.f
  obtain ⟨r, h1, h2⟩ := szInt_left x a ha hx
  rw [h1]
  simp only [Option.bind_some]
  by_cases g : r < 0
  · rw [if_pos g]
    exact ⟨_, rfl, Or.inl (by omega)⟩
  · rw [if_neg g]
    have h2 := h2.resolve_left g
    obtain ⟨q, h3, h4⟩ := szInt_left y r (by omega) hy
    rw [h3]
    simp only [Option.bind_some]
    by_cases g2 : q < 0
    · rw [if_pos g2]
      exact ⟨_, rfl, Or.inl (by omega)⟩
    · rw [if_neg g2]
      have h4 := h4.resolve_left g2
      exact ⟨_, rfl, Or.inr ⟨by omega, h2.2, h4.2⟩⟩
theorem szNodeS_go (l : List S72) (hl : l.length ≤ 1048576) (hx : ∀ x ∈ l, x.f0.length ≤ maxLen ∧ x.f1.length ≤ maxLen) (d : Nat) : ∀ (k i : Nat) (a : Int), 0 ≤ a ∧ a ≤ 1048576 → i ≤ l.length → l.length - i = d → d < k → ∃ r, laws_szNodeS.l0 k l a (i : Int) = some r ∧ leftOk a r (∀ j (hj : j < l.length), i ≤ j → l[j].f0.length ≤ 1048576 ∧ l[j].f1.length ≤ 1048576) := by
  induction d with
  | zero =>
    intro k i a ha hi hd hk
    obtain ⟨k, rfl⟩ : ∃ m, k = m + 1 := ⟨k - 1, by omega⟩
    simp only [laws_szNodeS.l0]
    rw [if_neg (by omega)]
    exact ⟨a, rfl, Or.inr ⟨by omega, fun j hj hij => by omega⟩⟩
  | succ d ih =>
    intro k i a ha hi hd hk
    obtain ⟨k, rfl⟩ : ∃ m, k = m + 1 := ⟨k - 1, by omega⟩
    simp only [laws_szNodeS.l0]
    obtain ⟨r, h1, h2⟩ := szNode_left l[i].f0 l[i].f1 a ha (hx _ (List.getElem_mem _)).1 (hx _ (List.getElem_mem _)).2
    rw [if_pos (by omega), if_pos (by omega), wnext i (by omega), T72_at l i (by omega), h1]
    simp only [Option.bind_some]
    by_cases h : r < 0
    · rw [if_pos h]
      exact ⟨-1, rfl, Or.inl (by omega)⟩
    · rw [if_neg h]
      have h2 := h2.resolve_left h
      obtain ⟨q, h3, h4⟩ := ih k (i + 1) r (by omega) (by omega) (by omega) (by omega)
      refine ⟨q, h3, h4.imp id fun h4 => ⟨by omega, fun j hj hij => ?_⟩⟩
      by_cases e : i = j
      · subst e
        exact h2.2
      · exact h4.2 j hj (by omega)
theorem szIntSS_go (l : List (List Int)) (hl : l.length ≤ 1048576) (hx : ∀ x ∈ l, x.length ≤ maxLen) (d : Nat) : ∀ (k i : Nat) (a : Int), 0 ≤ a ∧ a ≤ 1048576 → i ≤ l.length → l.length - i = d → d < k → ∃ r, laws_szIntSS.l0 k l a (i : Int) = some r ∧ leftOk a r (∀ j (hj : j < l.length), i ≤ j → l[j].length ≤ 1048576) := by
  induction d with
  | zero =>
    intro k i a ha hi hd hk
    obtain ⟨k, rfl⟩ : ∃ m, k = m + 1 := ⟨k - 1, by omega⟩
    simp only [laws_szIntSS.l0]
    rw [if_neg (by omega)]
    exact ⟨a, rfl, Or.inr ⟨by omega, fun j hj hij => by omega⟩⟩
  | succ d ih =>
    intro k i a ha hi hd hk
    obtain ⟨k, rfl⟩ : ∃ m, k = m + 1 := ⟨k - 1, by omega⟩
    simp only [laws_szIntSS.l0]
    obtain ⟨r, h1, h2⟩ := szInt_left l[i] a ha (hx _ (List.getElem_mem _))
    rw [if_pos (by omega), if_pos (by omega), wnext i (by omega), L1_at l i (by omega), h1]
    simp only [Option.bind_some]
    by_cases h : r < 0
    · rw [if_pos h]
      exact ⟨-1, rfl, Or.inl (by omega)⟩
    · rw [if_neg h]
      have h2 := h2.resolve_left h
      obtain ⟨q, h3, h4⟩ := ih k (i + 1) r (by omega) (by omega) (by omega) (by omega)
      refine ⟨q, h3, h4.imp id fun h4 => ⟨by omega, fun j hj hij => ?_⟩⟩
      by_cases e : i = j
      · subst e
        exact h2.2
      · exact h4.2 j hj (by omega)
theorem szGraph_eq (l0 : List S72) (l1 : List (List Int)) (l2 : List Int) (h0 : l0.length ≤ maxLen) (h1 : ∀ x ∈ l0, x.f0.length ≤ maxLen ∧ x.f1.length ≤ maxLen) (h2 : l1.length ≤ maxLen) (h3 : ∀ x ∈ l1, x.length ≤ maxLen) (h4 : l2.length ≤ maxLen) (k : Nat) (hk : 1048576 < k) :
    ∃ r, laws_szGraph.f k l0 l1 l2 1048576 = some r ∧ (r < 0 ∨ BigG l0 l1 l2) := by
  have hm : (maxLen : Int) = 9223372036854775807 := rfl
  have a0 : ∃ r, laws_szNodeS.f k l0 1048576 = some r ∧ leftOk 1048576 r (l0.length ≤ 1048576 ∧ ∀ x ∈ l0, x.f0.length ≤ 1048576 ∧ x.f1.length ≤ 1048576) := by
    unfold laws_szNodeS.f
    rw [w64 (by omega) (by omega)]
    by_cases h : (1048576 : Int) - (l0.length : Int) < 0
    · rw [if_pos h]
      exact ⟨-1, rfl, Or.inl (by omega)⟩
    · rw [if_neg h]
      obtain ⟨r, g1, g2⟩ := szNodeS_go l0 (by omega) h1 l0.length k 0 (1048576 - (l0.length : Int)) (by omega) (by omega) (by omega) (by omega)
      refine ⟨r, g1, g2.imp id fun g2 => ⟨by omega, by omega, fun x hx => ?_⟩⟩
      obtain ⟨j, hj, rfl⟩ := List.getElem_of_mem hx
      exact g2.2 j hj (by omega)
  obtain ⟨r0, e0, f0⟩ := a0
  unfold laws_szGraph.f
  rw [e0]
  simp only [Option.bind_some]
  by_cases g0 : r0 < 0
  · rw [if_pos g0]
    exact ⟨-1, rfl, Or.inl (by omega)⟩
  rw [if_neg g0]
  have f0 := f0.resolve_left g0
  have a1 : ∃ r, laws_szIntSS.f k l1 r0 = some r ∧ leftOk r0 r (l1.length ≤ 1048576 ∧ ∀ x ∈ l1, x.length ≤ 1048576) := by
    unfold laws_szIntSS.f
    rw [w64 (by omega) (by omega)]
    by_cases h : r0 - (l1.length : Int) < 0
    · rw [if_pos h]
      exact ⟨-1, rfl, Or.inl (by omega)⟩
    · rw [if_neg h]
      obtain ⟨r, g1, g2⟩ := szIntSS_go l1 (by omega) h3 l1.length k 0 (r0 - (l1.length : Int)) (by omega) (by omega) (by omega) (by omega)
      refine ⟨r, g1, g2.imp id fun g2 => ⟨by omega, by omega, fun x hx => ?_⟩⟩
      obtain ⟨j, hj, rfl⟩ := List.getElem_of_mem hx
      exact g2.2 j hj (by omega)
  obtain ⟨r1, e1, f1⟩ := a1
  rw [e1]
  simp only [Option.bind_some]
  by_cases g1 : r1 < 0
  · rw [if_pos g1]
    exact ⟨-1, rfl, Or.inl (by omega)⟩
  rw [if_neg g1]
  have f1 := f1.resolve_left g1
  obtain ⟨r2, e2, f2⟩ := szInt_left l2 r1 (by omega) h4
  rw [e2]
  simp only [Option.bind_some]
  by_cases g2 : r2 < 0
  · rw [if_pos g2]
    exact ⟨-1, rfl, Or.inl (by omega)⟩
  rw [if_neg g2]
  have f2 := f2.resolve_left g2
  exact ⟨r2, rfl, Or.inr ⟨f0.2.1, f0.2.2, f1.2.1, f1.2.2, f2.2⟩⟩

def nodeBad (N : Int) (x : S50) : Bool := decide (4 < x.f0.length) || (decide (4 < x.f1.length) || x.f0.any (offP (-1) N))
def rootBad (N : Int) (x : List Int) : Bool := decide (8 < x.length) || x.any (offP (-1) N)
theorem refs_go (l : List Int) (N : Int) (hl : l.length ≤ 1048576) (d : Nat) : ∀ (k i : Nat), i ≤ l.length → l.length - i = d → d < k → spec_l5Refs.l0 k l N (i : Int) = some (!((l.drop i).any (offP (-1) N))) := by
  induction d with
  | zero =>
    intro k i hi hd hk
    obtain ⟨k, rfl⟩ : ∃ m, k = m + 1 := ⟨k - 1, by omega⟩
    simp only [spec_l5Refs.l0]
    rw [if_neg (by omega), List.drop_eq_nil_of_le (by omega)]
    rfl
  | succ d ih =>
    intro k i hi hd hk
    obtain ⟨k, rfl⟩ : ∃ m, k = m + 1 := ⟨k - 1, by omega⟩
    simp only [spec_l5Refs.l0]
    rw [if_pos (by omega), if_pos (by omega), wnext i (by omega), rd_at l i (by omega), List.drop_eq_getElem_cons (by omega : i < l.length), List.any_cons]
    by_cases h : l[i] < -1
    · rw [if_pos h, offP, decide_eq_true h]
      rfl
    · rw [if_neg h]
      by_cases h2 : l[i] ≥ N
      · rw [if_pos h2, offP, decide_eq_true (show N ≤ l[i] from h2)]
        simp
      · rw [if_neg h2, ih k (i + 1) (by omega) (by omega) (by omega), offP, decide_eq_false h, decide_eq_false (show ¬ N ≤ l[i] from h2)]
        simp
theorem refs_eq (l : List Int) (N : Int) (hl : l.length ≤ 1048576) (k : Nat) (hk : l.length < k) : spec_l5Refs.f k l N = some (!(l.any (offP (-1) N))) :=
  refs_go l N hl l.length k 0 (by omega) (by omega) hk
theorem spec_nodes (g0 : List S50) (g1 : List (List Int)) (g2 : List Int) (hl : g0.length ≤ 1048576) (d : Nat) : ∀ (k i : Nat), 10 < k → i ≤ g0.length → g0.length - i = d →
    spec_GraphOk.l0 (k + d + 1) (i : Int) g0 g1 g2 = if (g0.drop i).any (nodeBad (g0.length : Int)) = true then some false else spec_GraphOk.l1 k 0 g0 g1 g2 := by
  induction d with
  | zero =>
    intro k i hk hi hd
    simp only [Nat.add_zero, spec_GraphOk.l0]
    rw [if_neg (by omega), List.drop_eq_nil_of_le (by omega), if_neg (by simp)]
  | succ d ih =>
    intro k i hk hi hd
    obtain ⟨q, hq⟩ : ∃ q, k + d + 1 = q := ⟨_, rfl⟩
    rw [show k + (d + 1) + 1 = q + 1 by omega]
    have hn := ih k (i + 1) hk (by omega) (by omega)
    rw [hq] at hn
    simp only [spec_GraphOk.l0]
    rw [if_pos (by omega), if_pos (by omega), wnext i (by omega), T50_at g0 i (by omega), List.drop_eq_getElem_cons (by omega : i < g0.length), List.any_cons, hn]
    by_cases h1 : ((g0[i].f0.length : Nat) : Int) > 4
    · rw [if_pos h1, nodeBad, decide_eq_true (by omega), if_pos (by simp)]
    · rw [if_neg h1]
      by_cases h2 : ((g0[i].f1.length : Nat) : Int) > 4
      · rw [if_pos h2, nodeBad, decide_eq_true (by omega : 4 < g0[i].f1.length), if_pos (by simp)]
      · rw [if_neg h2, refs_eq _ _ (by omega) _ (by omega), nodeBad, decide_eq_false (by omega : ¬ 4 < g0[i].f0.length), decide_eq_false (by omega : ¬ 4 < g0[i].f1.length)]
        simp only [Option.bind_some, Bool.false_or]
        cases g0[i].f0.any (offP (-1) (g0.length : Int)) with
        | true => simp
        | false => simp
theorem impl_nodes (g0 : List S50) (g1 : List (List Int)) (g2 : List Int) (hl : g0.length ≤ 1048576) (d : Nat) : ∀ (k i : Nat), i ≤ g0.length → g0.length - i = d →
    impl_GraphOk.l0 (k + d + 1) g0 (g0.length : Int) (i : Int) g0 g1 g2 = if (g0.drop i).any (nodeBad (g0.length : Int)) = true then some false else impl_GraphOk.l1 k g1 (g1.length : Int) 0 g0 g1 g2 := by
  induction d with
  | zero =>
    intro k i hi hd
    simp only [Nat.add_zero, impl_GraphOk.l0]
    rw [if_neg (by omega), List.drop_eq_nil_of_le (by omega), if_neg (by simp)]
  | succ d ih =>
    intro k i hi hd
    obtain ⟨q, hq⟩ : ∃ q, k + d + 1 = q := ⟨_, rfl⟩
    rw [show k + (d + 1) + 1 = q + 1 by omega]
    have hn := ih k (i + 1) (by omega) (by omega)
    rw [hq] at hn
    simp only [impl_GraphOk.l0]
    rw [if_pos (by omega), if_pos (by omega), if_pos (by omega), wnext i (by omega), T50_at g0 i (by omega), List.drop_eq_getElem_cons (by omega : i < g0.length), List.any_cons, hn]
    by_cases h1 : ((g0[i].f0.length : Nat) : Int) > 4
    · rw [if_pos h1, nodeBad, decide_eq_true (by omega), if_pos (by simp)]
    · rw [if_neg h1]
      by_cases h2 : ((g0[i].f1.length : Nat) : Int) > 4
      · rw [if_pos h2, nodeBad, decide_eq_true (by omega : 4 < g0[i].f1.length), if_pos (by simp)]
      · rw [if_neg h2, impl_Graph_leads.f, nodeBad, decide_eq_false (by omega : ¬ 4 < g0[i].f0.length), decide_eq_false (by omega : ¬ 4 < g0[i].f1.length)]
        simp only [Option.bind_some, Bool.false_or]
        cases g0[i].f0.any (offP (-1) (g0.length : Int)) with
        | true => simp
        | false => simp
theorem spec_roots (g0 : List S50) (g1 : List (List Int)) (g2 : List Int) (hl : g1.length ≤ 1048576) (d : Nat) : ∀ (k i : Nat), 10 < k → i ≤ g1.length → g1.length - i = d →
    spec_GraphOk.l1 (k + d + 1) (i : Int) g0 g1 g2 = if (g1.drop i).any (rootBad (g0.length : Int)) = true then some false else spec_GraphOk.l2 k 0 g0 g1 g2 := by
  induction d with
  | zero =>
    intro k i hk hi hd
    simp only [Nat.add_zero, spec_GraphOk.l1]
    rw [if_neg (by omega), List.drop_eq_nil_of_le (by omega), if_neg (by simp)]
  | succ d ih =>
    intro k i hk hi hd
    obtain ⟨q, hq⟩ : ∃ q, k + d + 1 = q := ⟨_, rfl⟩
    rw [show k + (d + 1) + 1 = q + 1 by omega]
    have hn := ih k (i + 1) hk (by omega) (by omega)
    rw [hq] at hn
    simp only [spec_GraphOk.l1]
    rw [if_pos (by omega), if_pos (by omega), wnext i (by omega), L1_at g1 i (by omega), List.drop_eq_getElem_cons (by omega : i < g1.length), List.any_cons, hn]
    by_cases h1 : ((g1[i].length : Nat) : Int) > 8
    · rw [if_pos h1, rootBad, decide_eq_true (by omega), if_pos (by simp)]
    · rw [if_neg h1, refs_eq _ _ (by omega) _ (by omega), rootBad, decide_eq_false (by omega : ¬ 8 < g1[i].length)]
      simp only [Option.bind_some, Bool.false_or]
      cases g1[i].any (offP (-1) (g0.length : Int)) with
      | true => simp
      | false => simp
theorem impl_roots (g0 : List S50) (g1 : List (List Int)) (g2 : List Int) (hl : g1.length ≤ 1048576) (d : Nat) : ∀ (k i : Nat), i ≤ g1.length → g1.length - i = d →
    impl_GraphOk.l1 (k + d + 1) g1 (g1.length : Int) (i : Int) g0 g1 g2 = some (!((g1.drop i).any (rootBad (g0.length : Int)))) := by
  induction d with
  | zero =>
    intro k i hi hd
    simp only [Nat.add_zero, impl_GraphOk.l1]
    rw [if_neg (by omega), List.drop_eq_nil_of_le (by omega)]
    rfl
  | succ d ih =>
    intro k i hi hd
    obtain ⟨q, hq⟩ : ∃ q, k + d + 1 = q := ⟨_, rfl⟩
    rw [show k + (d + 1) + 1 = q + 1 by omega]
    have hn := ih k (i + 1) (by omega) (by omega)
    rw [hq] at hn
    simp only [impl_GraphOk.l1]
    rw [if_pos (by omega), if_pos (by omega), if_pos (by omega), wnext i (by omega), L1_at g1 i (by omega), List.drop_eq_getElem_cons (by omega : i < g1.length), List.any_cons, hn]
    by_cases h1 : ((g1[i].length : Nat) : Int) > 8
    · rw [if_pos h1, rootBad, decide_eq_true (by omega)]
      simp
    · rw [if_neg h1, impl_Graph_leads.f, rootBad, decide_eq_false (by omega : ¬ 8 < g1[i].length)]
      simp only [Option.bind_some, Bool.false_or]
      cases g1[i].any (offP (-1) (g0.length : Int)) with
      | true => simp
      | false => simp
theorem spec_pins (g0 : List S50) (g1 : List (List Int)) (g2 : List Int) (hl : g2.length ≤ 1048576) (d : Nat) : ∀ (k i : Nat), 10 < k → i ≤ g2.length → g2.length - i = d →
    spec_GraphOk.l2 (k + d + 1) (i : Int) g0 g1 g2 = if (g2.drop i).any (fun n => decide (n < 0)) = true then some false else some (decide (g2.length ≤ 8) && !(g2.any (offP (-1) (g0.length : Int)))) := by
  induction d with
  | zero =>
    intro k i hk hi hd
    simp only [Nat.add_zero, spec_GraphOk.l2]
    rw [if_neg (by omega), List.drop_eq_nil_of_le (by omega)]
    by_cases h : (g2.length : Int) ≤ 8
    · rw [if_pos h, refs_eq _ _ (by omega) _ (by omega), decide_eq_true (by omega : g2.length ≤ 8)]
      simp
    · rw [if_neg h, decide_eq_false (by omega : ¬ g2.length ≤ 8)]
      simp
  | succ d ih =>
    intro k i hk hi hd
    obtain ⟨q, hq⟩ : ∃ q, k + d + 1 = q := ⟨_, rfl⟩
    rw [show k + (d + 1) + 1 = q + 1 by omega]
    have hn := ih k (i + 1) hk (by omega) (by omega)
    rw [hq] at hn
    simp only [spec_GraphOk.l2]
    rw [if_pos (by omega), if_pos (by omega), wnext i (by omega), rd_at g2 i (by omega), List.drop_eq_getElem_cons (by omega : i < g2.length), List.any_cons, hn]
    by_cases h1 : g2[i] < 0
    · rw [if_pos h1, decide_eq_true h1, if_pos (by simp)]
    · rw [if_neg h1, decide_eq_false h1, Bool.false_or]
theorem pins_off (N : Int) : ∀ l : List Int, l.any (offP 0 N) = (l.any (fun n => decide (n < 0)) || l.any (offP (-1) N))
  | [] => rfl
  | x :: r => by
    rw [List.any_cons, List.any_cons, List.any_cons, pins_off N r]
    by_cases h : x < 0
    · rw [offP, decide_eq_true h]
      simp
    · rw [offP, offP, decide_eq_false h, decide_eq_false (by omega : ¬ x < -1)]
      cases decide (N ≤ x) <;> cases r.any (fun n => decide (n < 0)) <;> simp
def gOkB (g0 : List S50) (g1 : List (List Int)) (g2 : List Int) : Bool := decide (g0.length ≤ 200 ∧ 1 ≤ g1.length ∧ g1.length ≤ 3) && (!(g0.any (nodeBad (g0.length : Int))) && (!(g1.any (rootBad (g0.length : Int))) && (decide (g2.length ≤ 8) && !(g2.any (offP 0 (g0.length : Int))))))
theorem graph_spec (g0 : List S50) (g1 : List (List Int)) (g2 : List Int) (h0 : g0.length ≤ 1048576) (h1 : g1.length ≤ 1048576) (h2 : g2.length ≤ 1048576) (K : Nat) (hK : 3145800 < K) : spec_GraphOk.f K g0 g1 g2 = some (gOkB g0 g1 g2) := by
  have bad : spec_GraphOk.j0 K true g0 g1 g2 = some false := by
    obtain ⟨K, rfl⟩ : ∃ m, K = m + 1 := ⟨K - 1, by omega⟩
    simp [spec_GraphOk.j0]
  unfold spec_GraphOk.f gOkB
  by_cases c1 : (g0.length : Int) > 200
  · rw [if_pos c1, bad, decide_eq_false (by omega)]
    rfl
  by_cases c2 : (g1.length : Int) < 1
  · rw [if_neg c1, if_pos c2, bad, decide_eq_false (by omega)]
    rfl
  rw [if_neg c1, if_neg c2]
  by_cases c3 : (g1.length : Int) > 3
  · rw [decide_eq_true c3, bad, decide_eq_false (by omega)]
    rfl
  rw [decide_eq_false c3, decide_eq_true (by omega)]
  obtain ⟨K, rfl⟩ : ∃ m, K = ((m + g2.length + 1) + g1.length + 1) + g0.length + 1 + 1 := ⟨K - 4 - g2.length - g1.length - g0.length, by omega⟩
  simp only [spec_GraphOk.j0, Bool.false_eq_true, if_false]
  have s0 := spec_nodes g0 g1 g2 h0 g0.length ((K + g2.length + 1) + g1.length + 1) 0 (by omega) (by omega) (by omega)
  have s1 := spec_roots g0 g1 g2 h1 g1.length (K + g2.length + 1) 0 (by omega) (by omega) (by omega)
  have s2 := spec_pins g0 g1 g2 h2 g2.length K 0 (by omega) (by omega) (by omega)
  rw [List.drop_zero] at s0 s1 s2
  have z : ((0 : Nat) : Int) = 0 := rfl
  rw [z] at s0 s1 s2
  rw [s0, s1, s2, pins_off]
  cases g0.any (nodeBad (g0.length : Int)) <;> cases g1.any (rootBad (g0.length : Int)) <;> cases g2.any (fun n => decide (n < 0)) <;> simp
theorem graph_impl (g0 : List S50) (g1 : List (List Int)) (g2 : List Int) (h0 : g0.length ≤ 1048576) (h1 : g1.length ≤ 1048576) (K : Nat) (hK : 3145800 < K) : impl_GraphOk.f K g0 g1 g2 = some (gOkB g0 g1 g2) := by
  have bad : impl_GraphOk.j0 K true g0 g1 g2 = some false := by
    obtain ⟨K, rfl⟩ : ∃ m, K = m + 1 := ⟨K - 1, by omega⟩
    simp [impl_GraphOk.j0]
  unfold impl_GraphOk.f gOkB
  by_cases c1 : (g0.length : Int) > 200
  · rw [if_pos c1, bad, decide_eq_false (by omega)]
    rfl
  by_cases c2 : (g1.length : Int) < 1
  · rw [if_neg c1, if_pos c2, bad, decide_eq_false (by omega)]
    rfl
  by_cases c3 : (g1.length : Int) > 3
  · rw [if_neg c1, if_neg c2, if_pos c3, bad, decide_eq_false (by omega)]
    rfl
  rw [if_neg c1, if_neg c2, if_neg c3, decide_eq_true (by omega)]
  by_cases c4 : (g2.length : Int) > 8
  · rw [if_pos c4, bad, decide_eq_false (by omega)]
    simp
  rw [if_neg c4, decide_eq_true (by omega), impl_Graph_leads.f]
  simp only [Option.bind_some]
  cases hp : g2.any (offP 0 (g0.length : Int)) with
  | true =>
    rw [show (!!true) = true from rfl, bad]
    simp
  | false =>
    obtain ⟨K, rfl⟩ : ∃ m, K = (m + g1.length + 1) + g0.length + 1 + 1 := ⟨K - 3 - g1.length - g0.length, by omega⟩
    simp only [impl_GraphOk.j0, Bool.not_false, Bool.not_true, Bool.false_eq_true, if_false]
    have s0 := impl_nodes g0 g1 g2 h0 g0.length (K + g1.length + 1) 0 (by omega) (by omega)
    have s1 := impl_roots g0 g1 g2 h1 g1.length K 0 (by omega) (by omega)
    rw [List.drop_zero] at s0 s1
    have z : ((0 : Nat) : Int) = 0 := rfl
    rw [z] at s0 s1
    rw [s0, s1]
    cases g0.any (nodeBad (g0.length : Int)) <;> simp

theorem markIntSS_some (d : Nat) : ∀ (k i : Nat) (l : List (List Int)) (n : Int), l.length ≤ 1048576 → (∀ x ∈ l, x.length ≤ 1048576) → i ≤ l.length → l.length - i = d → d + 1048577 < k → 0 ≤ n → n + (d : Int) * 2097152 ≤ 1000000000000000 → ∃ m l', laws_markIntSS.l0 k l n (i : Int) = some (m, l') ∧ n ≤ m ∧ m ≤ n + (d : Int) * 2097152 := by
  induction d with
  | zero =>
    intro k i l n h1 h2 hi hd hk h0 hn
    obtain ⟨k, rfl⟩ : ∃ m, k = m + 1 := ⟨k - 1, by omega⟩
    simp only [laws_markIntSS.l0]
    rw [if_neg (by omega)]
    exact ⟨n, l, rfl, by omega, by omega⟩
  | succ d ih =>
    intro k i l n h1 h2 hi hd hk h0 hn
    obtain ⟨k, rfl⟩ : ∃ m, k = m + 1 := ⟨k - 1, by omega⟩
    simp only [laws_markIntSS.l0]
    have hl := h2 l[i] (List.getElem_mem _)
    rw [if_pos (by omega), if_pos (by omega), L1_at l i (by omega), laws_markIntS_eq l[i] n ⟨h0, by omega⟩ hl k (by omega)]
    simp only [Option.bind_some]
    rw [wnext i (by omega), Int.toNat_natCast]
    obtain ⟨m, l', e, e1, e2⟩ := ih k (i + 1) (l.set i (laws_markIntS_list l[i] n)) (n + (l[i].length : Int)) (by simpa using h1) (by
      intro x hx
      rcases List.mem_or_eq_of_mem_set hx with hx | rfl
      · exact h2 x hx
      · rw [laws_markIntS_list_length]; exact hl) (by simpa using by omega) (by simpa using by omega) (by omega) (by omega) (by omega)
    exact ⟨m, l', e, by omega, by omega⟩
theorem markNodeS_some (d : Nat) : ∀ (k i : Nat) (l : List S50) (n : Int), l.length ≤ 1048576 → (∀ x ∈ l, x.f0.length ≤ 1048576 ∧ x.f1.length ≤ 1048576) → i ≤ l.length → l.length - i = d → d + 1048577 < k → 0 ≤ n → n + (d : Int) * 2097152 ≤ 1000000000000000 → ∃ m l', laws_markNodeS.l0 k l n (i : Int) = some (m, l') ∧ n ≤ m ∧ m ≤ n + (d : Int) * 2097152 := by
  induction d with
  | zero =>
    intro k i l n h1 h2 hi hd hk h0 hn
    obtain ⟨k, rfl⟩ : ∃ m, k = m + 1 := ⟨k - 1, by omega⟩
    simp only [laws_markNodeS.l0]
    rw [if_neg (by omega)]
    exact ⟨n, l, rfl, by omega, by omega⟩
  | succ d ih =>
    intro k i l n h1 h2 hi hd hk h0 hn
    obtain ⟨k, rfl⟩ : ∃ m, k = m + 1 := ⟨k - 1, by omega⟩
    simp only [laws_markNodeS.l0]
    have hl := h2 l[i] (List.getElem_mem _)
    rw [if_pos (by omega), if_pos (by omega), T50_at l i (by omega), laws_markIntS_eq l[i].f0 n ⟨h0, by omega⟩ hl.1 k (by omega)]
    simp only [Option.bind_some]
    rw [laws_markIntS_eq l[i].f1 (n + (l[i].f0.length : Int)) ⟨by omega, by omega⟩ hl.2 k (by omega)]
    simp only [Option.bind_some]
    rw [wnext i (by omega), Int.toNat_natCast]
    obtain ⟨m, l', e, e1, e2⟩ := ih k (i + 1) (l.set i ⟨laws_markIntS_list l[i].f0 n, laws_markIntS_list l[i].f1 (n + (l[i].f0.length : Int))⟩) (n + (l[i].f0.length : Int) + (l[i].f1.length : Int)) (by simpa using h1) (by
      intro x hx
      rcases List.mem_or_eq_of_mem_set hx with hx | rfl
      · exact h2 x hx
      · exact ⟨by rw [laws_markIntS_list_length]; exact hl.1, by rw [laws_markIntS_list_length]; exact hl.2⟩) (by simpa using by omega) (by simpa using by omega) (by omega) (by omega) (by omega)
    exact ⟨m, l', e, by omega, by omega⟩
theorem markGraph_some (l0 : List S72) (l1 : List (List Int)) (l2 : List Int) (h : BigG l0 l1 l2) (k : Nat) (hk : 2097153 < k) : ∃ m, laws_markGraph.f k (l0.map cvN) l1 l2 1 = some m ∧ ¬ m < 0 := by
  have h0 := h.n0
  have h1 := h.r0
  obtain ⟨m1, r1, e1, a1, b1⟩ := markNodeS_some l0.length k 0 (l0.map cvN) 1 (by simpa using h0) (by intro x hx; obtain ⟨y, hy, rfl⟩ := List.mem_map.1 hx; exact h.n1 y hy) (by simp) (by simp) (by omega) (by omega) (by omega)
  obtain ⟨m2, r2, e2, a2, b2⟩ := markIntSS_some l1.length k 0 l1 m1 h1 h.r1 (by omega) (by omega) (by omega) (by omega) (by omega)
  have e3 := laws_markIntS_eq l2 m2 ⟨by omega, by omega⟩ h.p0 k (by omega)
  have e1' : laws_markNodeS.f k (l0.map cvN) 1 = some (m1, r1) := e1
  have e2' : laws_markIntSS.f k l1 m1 = some (m2, r2) := e2
  refine ⟨m2 + (l2.length : Int), ?_, by omega⟩
  unfold laws_markGraph.f
  rw [e1']
  simp only [Option.bind_some]
  rw [e2']
  simp only [Option.bind_some]
  rw [e3]
  rfl

structure GOk (g0 : List S50) (g1 : List (List Int)) : Prop where
  n0 : g0.length ≤ 200
  e1 : ∀ x ∈ g0, x.f0.length ≤ 4 ∧ ∀ n ∈ x.f0, -1 ≤ n ∧ n < (g0.length : Int)
  r0 : g1.length ≤ 3
  r1 : ∀ x ∈ g1, x.length ≤ 8 ∧ ∀ n ∈ x, -1 ≤ n ∧ n < (g0.length : Int)
theorem off_no {low N : Int} {l : List Int} (h : l.any (offP low N) = false) : ∀ n ∈ l, low ≤ n ∧ n < N := by
  intro n hn
  rw [List.any_eq_false] at h
  have := h n hn
  simp only [offP, Bool.or_eq_true, decide_eq_true_eq, not_or] at this
  omega

theorem g_ok {g0 : List S50} {g1 : List (List Int)} {g2 : List Int} (h : gOkB g0 g1 g2 = true) : GOk g0 g1 := by
  simp only [gOkB, Bool.and_eq_true, decide_eq_true_eq, Bool.not_eq_true'] at h
  obtain ⟨⟨h0, h1, h2⟩, h3, h4, h5, h6⟩ := h
  rw [List.any_eq_false] at h3 h4
  refine ⟨h0, fun x hx => ?_, h2, fun x hx => ?_⟩
  · have := h3 x hx
    simp only [nodeBad, Bool.or_eq_true, decide_eq_true_eq, not_or, Bool.not_eq_true] at this
    exact ⟨by omega, fun n hn => off_no this.2.2 n hn⟩
  · have := h4 x hx
    simp only [rootBad, Bool.or_eq_true, decide_eq_true_eq, not_or, Bool.not_eq_true] at this
    exact ⟨by omega, fun n hn => off_no this.2 n hn⟩
def cnt : List Bool → Nat
  | [] => 0
  | b :: r => (if b = true then 1 else 0) + cnt r
theorem cnt_le : ∀ l : List Bool, cnt l ≤ l.length
  | [] => Nat.le_refl _
  | b :: r => by
    have := cnt_le r
    simp only [cnt, List.length_cons]
    split <;> omega
theorem cnt_set : ∀ (l : List Bool) (n : Nat), n < l.length → l.getD n false = false → cnt (l.set n true) = cnt l + 1
  | [], n, h, _ => by simp at h
  | b :: r, 0, _, h => by
    simp at h
    subst h
    simp [cnt]
    omega
  | b :: r, n + 1, h, h2 => by
    have := cnt_set r n (by simpa using h) (by simpa using h2)
    simp only [List.set_cons_succ, cnt, this]
    omega
theorem rdI_mem (l : List Int) (i : Int) (h0 : 0 ≤ i) (h1 : i < (l.length : Int)) : rd l i ∈ l := by
  have h : i.toNat < l.length := by omega
  have e : rd l i = l[i.toNat] := by simp [rd, List.getD, h]
  rw [e]
  exact List.getElem_mem h
theorem node_mem (l : List S50) (i : Int) (h0 : 0 ≤ i) (h1 : i < (l.length : Int)) : rd_T50 l i ∈ l := by
  have h : i.toNat < l.length := by omega
  have e : rd_T50 l i = l[i.toNat] := by simp [rd_T50, List.getD, h]
  rw [e]
  exact List.getElem_mem h

theorem rd_left (a b : List Int) (i : Nat) (h : i < a.length) : rd (a ++ b) (i : Int) = rd a (i : Int) := by
  simp [rd, List.getD, List.getElem?_append_left h]
theorem rd_end (a : List Int) (n : Int) : rd (a ++ [n]) (a.length : Int) = n := by
  simp [rd, List.getD]
theorem rd_set (l : List Int) (x o v : Int) (h0 : 0 ≤ x) (h1 : x < (l.length : Int)) (ho : 0 ≤ o) : rd (l.set x.toNat v) o = if o = x then v else rd l o := by
  have hx : x.toNat < l.length := by omega
  by_cases h : o = x
  · subst h
    rw [if_pos rfl]
    simp [rd, hx]
  · rw [if_neg h]
    have : x.toNat ≠ o.toNat := by omega
    simp [rd, List.getElem?_set_ne this]
def InQ (q : List Int) (m : Nat) (b : Int) : Prop := b = -1 ∨ ∃ j : Nat, j < m ∧ b = rd q (j : Int)
structure POk (N : Nat) (s : PS) : Prop where
  len : s.1.length = N
  flen : s.2.1.length = N
  cn : s.2.2.length ≤ cnt s.1
  all : ∀ x ∈ s.2.2, 0 ≤ x ∧ x < (N : Int) ∧ rdOf false s.1 x = true
  had : ∀ n : Int, 0 ≤ n → rdOf false s.1 n = true → ∃ i : Nat, i < s.2.2.length ∧ rd s.2.2 (i : Int) = n
  back : ∀ i : Nat, i < s.2.2.length → InQ s.2.2 i (rd s.2.1 (rd s.2.2 (i : Int)))
theorem POk.short {N : Nat} {s : PS} (h : POk N s) : s.2.2.length ≤ N := by
  have := cnt_le s.1
  have := h.len
  have := h.cn
  omega
theorem inq_left {q r : List Int} {m : Nat} {b : Int} (hm : m ≤ q.length) (h : InQ q m b) : InQ (q ++ r) m b := by
  rcases h with h | ⟨j, hj, h⟩
  · exact Or.inl h
  · exact Or.inr ⟨j, hj, by rw [rd_left _ _ _ (by omega)]; exact h⟩
theorem pstep_ok {N : Nat} {s : PS} (h : POk N s) (b n : Int) (hn : n < (N : Int)) (hb : InQ s.2.2 s.2.2.length b) : POk N (pstep b s n) := by
  obtain ⟨had, frm, q⟩ := s
  unfold pstep
  split
  · rename_i hc
    obtain ⟨h0, h1⟩ := hc
    have hl : had.length = N := h.len
    have hf : frm.length = N := h.flen
    have h1 : rdOf false had n = false := h1
    have hx : ∀ x ∈ q, 0 ≤ x ∧ x < (N : Int) ∧ rdOf false had x = true := h.all
    have hall : ∀ i : Nat, i < q.length → 0 ≤ rd q (i : Int) ∧ rd q (i : Int) ≠ n := fun i hi => by
      have := hx _ (rdI_mem q (i : Int) (by omega) (by omega))
      refine ⟨this.1, fun e => ?_⟩
      rw [e, h1] at this
      exact Bool.noConfusion this.2.2
    refine ⟨by simpa using hl, by simpa using hf, ?_, ?_, ?_, ?_⟩
    · have e := cnt_set had n.toNat (by omega) h1
      have : q.length ≤ cnt had := h.cn
      simp only [List.length_append, List.length_cons, List.length_nil]
      omega
    · intro x hxq
      show 0 ≤ x ∧ x < (N : Int) ∧ rdOf false (had.set n.toNat true) x = true
      rcases List.mem_append.1 hxq with hxq | hxq
      · obtain ⟨a0, a1, a2⟩ := hx x hxq
        refine ⟨a0, a1, ?_⟩
        rw [rdOf_set false had n x true h0 (by omega) a0]
        split
        · rfl
        · exact a2
      · obtain rfl := List.mem_singleton.1 hxq
        exact ⟨h0, hn, by rw [rdOf_set false had x x true h0 (by omega) h0, if_pos rfl]⟩
    · intro m hm hm2
      have hm2 : rdOf false (had.set n.toNat true) m = true := hm2
      rw [rdOf_set false had n m true h0 (by omega) hm] at hm2
      by_cases e : m = n
      · subst e
        exact ⟨q.length, by simp, rd_end q m⟩
      · rw [if_neg e] at hm2
        obtain ⟨i, hi, hr⟩ := h.had m hm hm2
        have hi : i < q.length := hi
        exact ⟨i, by show i < (q ++ [n]).length; simp; omega, (rd_left q [n] i hi).trans hr⟩
    · intro i hi
      have hi : i < (q ++ [n]).length := hi
      show InQ (q ++ [n]) i (rd (frm.set n.toNat b) (rd (q ++ [n]) (i : Int)))
      by_cases hq : i < q.length
      · rw [rd_left q [n] i hq, rd_set frm n _ b h0 (by omega) (hall i hq).1, if_neg (hall i hq).2]
        exact inq_left (by omega) (h.back i hq)
      · have e : i = q.length := by simp at hi; omega
        subst e
        rw [rd_end, rd_set frm n n b h0 (by omega) h0, if_pos rfl]
        exact inq_left (Nat.le_refl _) hb
  · exact h
theorem pstep_pre (b n : Int) (s : PS) : ∃ r, (pstep b s n).2.2 = s.2.2 ++ r := by
  unfold pstep
  split
  · exact ⟨[n], rfl⟩
  · exact ⟨[], by simp⟩
theorem inq_step {b n c : Int} {s : PS} (h : InQ s.2.2 s.2.2.length c) : InQ (pstep b s n).2.2 (pstep b s n).2.2.length c := by
  obtain ⟨r, e⟩ := pstep_pre b n s
  rw [e]
  rcases h with h | ⟨j, hj, h⟩
  · exact Or.inl h
  · exact Or.inr ⟨j, by simp; omega, by rw [rd_left _ _ _ hj]; exact h⟩
theorem pfold_ok {N : Nat} (b : Int) (l : List Int) (hl : ∀ n ∈ l, n < (N : Int)) : ∀ s, POk N s → InQ s.2.2 s.2.2.length b → POk N (l.foldl (pstep b) s) := by
  induction l with
  | nil => exact fun s h _ => h
  | cons n r ih => exact fun s h hb => ih (fun q hq => hl q (List.mem_cons_of_mem _ hq)) _ (pstep_ok h b n (hl n List.mem_cons_self) hb) (inq_step hb)
theorem inq_at (q : List Int) (i : Int) (h0 : 0 ≤ i) (h1 : i < (q.length : Int)) : InQ q q.length (rd q i) :=
  Or.inr ⟨i.toNat, by omega, by rw [Int.toNat_of_nonneg h0]⟩
theorem path_some {g0 : List S50} {g1 : List (List Int)} (hg : GOk g0 g1) (d : Nat) : ∀ (i : Nat) (s : PS), POk g0.length s → g0.length ≤ i + d → ∃ r, pathLoop g0 (d + 1) (i : Int) s = some r ∧ POk g0.length r := by
  induction d with
  | zero =>
    intro i s hs hd
    have := hs.short
    simp only [pathLoop]
    rw [if_neg (by omega)]
    exact ⟨_, rfl, hs⟩
  | succ d ih =>
    intro i s hs hd
    have hsh := hs.short
    have hn0 := hg.n0
    obtain ⟨q, hq⟩ : ∃ q, d + 1 = q := ⟨_, rfl⟩
    rw [hq]
    simp only [pathLoop]
    by_cases c : (i : Int) < (s.2.2.length : Int)
    · have hm := hs.all _ (rdI_mem s.2.2 (i : Int) (by omega) c)
      rw [if_pos c, if_pos ⟨hm.1, hm.2.1, by omega⟩, wnext i (by omega), ← hq]
      exact ih (i + 1) _ (pfold_ok _ _ (fun n hn => ((hg.e1 _ (node_mem g0 _ hm.1 hm.2.1)).2 n hn).2) _ hs (inq_at _ _ (by omega) c)) (by omega)
    · rw [if_neg c]
      exact ⟨_, rfl, hs⟩
theorem row_go (g0 : List S50) (g1 : List (List Int)) (g2 : List Int) (i : Nat) (b : Int) (hi : i < g1.length) (hr : g1[i].length ≤ 8) (hn : ∀ n ∈ g1[i], -1 ≤ n ∧ n < (g0.length : Int)) (hN : g0.length ≤ 200) (d : Nat) : ∀ (K j : Nat) (s : PS), POk g0.length s → j ≤ g1[i].length → g1[i].length - j = d → d < K →
    ∃ K', K ≤ K' + d + 1 ∧ spec_PathFrom.l0 K (i : Int) b s.2.2 s.2.1 s.1 (j : Int) g0 g1 g2 = spec_PathFrom.l1 K' b ((g1[i].drop j).foldl (pstep (-1)) s).2.2 ((g1[i].drop j).foldl (pstep (-1)) s).2.1 ((g1[i].drop j).foldl (pstep (-1)) s).1 0 g0 g1 g2 := by
  induction d with
  | zero =>
    intro K j s hs hj hd hK
    obtain ⟨K, rfl⟩ : ∃ m, K = m + 1 := ⟨K - 1, by omega⟩
    refine ⟨K, by omega, ?_⟩
    simp only [spec_PathFrom.l0]
    rw [if_pos (by omega), if_pos (by omega), L1_at g1 i hi, if_neg (by omega), List.drop_eq_nil_of_le (by omega)]
    rfl
  | succ d ih =>
    intro K j s hs hj hd hK
    obtain ⟨K, rfl⟩ : ∃ m, K = m + 1 := ⟨K - 1, by omega⟩
    have hjl : j < g1[i].length := by omega
    have hx := hn _ (List.getElem_mem hjl)
    have hs2 := pstep_ok hs (-1) _ hx.2 (Or.inl rfl)
    obtain ⟨K', h1, h2⟩ := ih K (j + 1) (pstep (-1) s g1[i][j]) hs2 (by omega) (by omega) (by omega)
    refine ⟨K', by omega, ?_⟩
    simp only [spec_PathFrom.l0]
    rw [if_pos (by omega), if_pos (by omega), L1_at g1 i hi, if_pos (by omega), if_pos (by omega), wnext j (by omega), rd_at _ j hjl, List.drop_eq_getElem_cons hjl, List.foldl_cons, ← h2]
    have hsh := hs.short
    have hl := hs.len
    have hf := hs.flen
    generalize g1[i][j] = x at hx ⊢
    by_cases c : x ≥ 0
    · rw [if_pos c, if_pos c, if_pos (by omega)]
      by_cases c2 : rdOf false s.1 x = true
      · rw [if_pos c2, pstep, if_neg (fun h => by rw [c2] at h; exact Bool.noConfusion h.2)]
      · rw [if_neg c2, if_pos (by omega), if_pos (by omega), pstep, if_pos ⟨c, Bool.eq_false_iff.2 c2⟩]
    · rw [if_neg c, pstep, if_neg (fun h => c h.1)]
theorem refs_run (g0 : List S50) (g1 : List (List Int)) (g2 : List Int) (l : List Int) (b p y : Int) (h0 : 0 ≤ p) (hr : l.length ≤ 4) (hn : ∀ n ∈ l, -1 ≤ n ∧ n < (g0.length : Int)) (hN : g0.length ≤ 200) (d : Nat) : ∀ (K j : Nat) (s : PS), POk g0.length s → p < (s.2.2.length : Int) → rd s.2.2 p = y → j ≤ l.length → l.length - j = d → d < K →
    ∃ K', K ≤ K' + d + 1 ∧ spec_PathFrom.l2 K b s.2.2 s.2.1 s.1 p l (j : Int) g0 g1 g2 = spec_PathFrom.l1 K' b ((l.drop j).foldl (pstep y) s).2.2 ((l.drop j).foldl (pstep y) s).2.1 ((l.drop j).foldl (pstep y) s).1 (wrap64 (p + 1)) g0 g1 g2 := by
  induction d with
  | zero =>
    intro K j s hs hp hy hj hd hK
    obtain ⟨K, rfl⟩ : ∃ m, K = m + 1 := ⟨K - 1, by omega⟩
    refine ⟨K, by omega, ?_⟩
    simp only [spec_PathFrom.l2]
    rw [if_neg (by omega), List.drop_eq_nil_of_le (by omega)]
    rfl
  | succ d ih =>
    intro K j s hs hp hy hj hd hK
    obtain ⟨K, rfl⟩ : ∃ m, K = m + 1 := ⟨K - 1, by omega⟩
    have hjl : j < l.length := by omega
    have hx := hn _ (List.getElem_mem hjl)
    have hq : InQ s.2.2 s.2.2.length y := by rw [← hy]; exact inq_at _ _ h0 hp
    obtain ⟨r, er⟩ := pstep_pre y l[j] s
    have hp2 : p < ((pstep y s l[j]).2.2.length : Int) := by rw [er, List.length_append]; omega
    have hy2 : rd (pstep y s l[j]).2.2 p = y := by
      have := rd_left s.2.2 r p.toNat (by omega)
      rw [Int.toNat_of_nonneg h0] at this
      rw [er, this]
      exact hy
    obtain ⟨K', h1, h2⟩ := ih K (j + 1) (pstep y s l[j]) (pstep_ok hs y _ hx.2 hq) hp2 hy2 (by omega) (by omega) (by omega)
    refine ⟨K', by omega, ?_⟩
    simp only [spec_PathFrom.l2]
    rw [if_pos (by omega), if_pos (by omega), wnext j (by omega), rd_at _ j hjl, List.drop_eq_getElem_cons hjl, List.foldl_cons, ← h2]
    have hsh := hs.short
    have hl := hs.len
    have hf := hs.flen
    clear h2 er hp2 hy2 hq
    generalize l[j] = x at hx ⊢
    by_cases c : x ≥ 0
    · rw [if_pos c, if_pos c, if_pos (by omega)]
      by_cases c2 : rdOf false s.1 x = true
      · rw [if_pos c2, pstep, if_neg (fun h => by rw [c2] at h; exact Bool.noConfusion h.2)]
      · rw [if_neg c2, if_pos h0, if_pos hp, if_pos (by omega), if_pos (by omega), pstep, if_pos ⟨c, Bool.eq_false_iff.2 c2⟩, hy]
    · rw [if_neg c, pstep, if_neg (fun h => c h.1)]
theorem nodes_go (g0 : List S50) (g1 : List (List Int)) (g2 : List Int) (hg : GOk g0 g1) (b : Int) (k : Nat) : ∀ (i : Int) (K : Nat) (s : PS) (r : PS), 0 ≤ i → POk g0.length s → pathLoop g0 k i s = some r → 12 * k < K → ∃ K', K ≤ K' + 12 * k ∧ spec_PathFrom.l1 K b s.2.2 s.2.1 s.1 i g0 g1 g2 = spec_PathFrom.l1 K' b r.2.2 r.2.1 r.1 (r.2.2.length : Int) g0 g1 g2 := by
  induction k with
  | zero =>
    intro i K s r hi hs h hK
    simp [pathLoop] at h
  | succ k ih =>
    intro i K s r hi hs h hK
    obtain ⟨K, rfl⟩ : ∃ m, K = m + 1 := ⟨K - 1, by omega⟩
    simp only [pathLoop] at h
    have hsh := hs.short
    have hn0 := hg.n0
    by_cases c : i < (s.2.2.length : Int)
    · simp only [spec_PathFrom.l1]
      have hm := hs.all _ (rdI_mem s.2.2 i hi c)
      have hnd := hg.e1 _ (node_mem g0 _ hm.1 hm.2.1)
      rw [if_pos c, if_pos ⟨hm.1, hm.2.1, by omega⟩] at h
      rw [if_pos c, if_pos hi, if_pos hm.1, if_pos hm.2.1]
      obtain ⟨K', h1, h2⟩ := refs_run g0 g1 g2 _ b i _ hi hnd.1 hnd.2 hn0 _ K 0 s hs c rfl (by omega) rfl (by omega)
      rw [List.drop_zero] at h2
      have z : ((0 : Nat) : Int) = 0 := rfl
      rw [z] at h2
      rw [h2]
      obtain ⟨K2, h3, h4⟩ := ih _ K' _ r (by rw [w64 (by omega) (by omega)]; omega) (pfold_ok _ _ (fun n hn => (hnd.2 n hn).2) _ hs (inq_at _ _ hi c)) h (by omega)
      exact ⟨K2, by omega, h4⟩
    · rw [if_neg c] at h
      obtain rfl := Option.some.inj h
      refine ⟨K + 1, by omega, ?_⟩
      simp only [spec_PathFrom.l1]
      rw [if_neg c, if_neg (show ¬ ((s.2.2.length : Int) < (s.2.2.length : Int)) by omega)]
theorem chain {N : Nat} (hN : N ≤ 200) {s : PS} (h : POk N s) (i : Nat) : ∀ n : Int, i < s.2.2.length → rd s.2.2 (i : Int) = n → ∃ c : List Int, c.length ≤ i + 1 ∧ (∀ (k : Nat) (o : List Int), i + 1 < k → o.length + i + 1 ≤ 1000 → backLoop s k o n = some (o ++ c)) ∧ (∀ (k : Nat) (o : List Int), i + 1 < k → o.length + i + 1 ≤ 1000 → spec_PathFrom.l3 k s.2.1 o n = some (c.reverse ++ o, true)) := by
  induction i using Nat.strongRecOn with
  | _ i ih =>
    intro n hi hn
    have hm := h.all _ (rdI_mem s.2.2 (i : Int) (by omega) (by omega))
    rw [hn] at hm
    obtain ⟨m0, m1, m2⟩ := hm
    have hl := h.len
    have hf := h.flen
    have hb := h.back i hi
    rw [hn] at hb
    have one : ∀ (k : Nat) (o : List Int), o.length + i + 1 ≤ 1000 → backLoop s (k + 1) o n = backLoop s k (o ++ [n]) (rd s.2.1 n) ∧ spec_PathFrom.l3 (k + 1) s.2.1 o n = spec_PathFrom.l3 k s.2.1 ([n] ++ o) (rd s.2.1 n) := fun k o ho => by
      simp only [backLoop, spec_PathFrom.l3, Option.bind_some]
      rw [if_pos m0, if_pos ⟨by omega, m2, by omega⟩, if_pos m0, if_pos (by simp; omega), if_pos m0, if_pos (by omega)]
      exact ⟨rfl, rfl⟩
    rcases hb with hb | ⟨j, hj, hb⟩
    · refine ⟨[n], by simp, fun k o hk ho => ?_, fun k o hk ho => ?_⟩
      · obtain ⟨k, rfl⟩ : ∃ m, k = m + 1 + 1 := ⟨k - 2, by omega⟩
        rw [(one _ o ho).1, hb]
        simp [backLoop]
      · obtain ⟨k, rfl⟩ : ∃ m, k = m + 1 + 1 := ⟨k - 2, by omega⟩
        rw [(one _ o ho).2, hb]
        simp [spec_PathFrom.l3]
    · obtain ⟨c, c1, c2, c3⟩ := ih j hj _ (by omega) hb.symm
      refine ⟨n :: c, by simp; omega, fun k o hk ho => ?_, fun k o hk ho => ?_⟩
      · obtain ⟨k, rfl⟩ : ∃ m, k = m + 1 := ⟨k - 1, by omega⟩
        rw [(one _ o ho).1, c2 k _ (by omega) (by simp; omega)]
        simp
      · obtain ⟨k, rfl⟩ : ∃ m, k = m + 1 := ⟨k - 1, by omega⟩
        rw [(one _ o ho).2, c3 k _ (by omega) (by simp; omega)]
        simp
theorem rev_go (l : List Int) (hl : l.length ≤ 1000) (d : Nat) : ∀ (k i : Nat) (x : List Int), x.length = l.length → i ≤ l.length → l.length - i ≤ d → d < k → (∀ t : Nat, t < l.length → x[t]? = if t < i ∨ l.length ≤ t + i then l[l.length - 1 - t]? else l[t]?) → slices_Reverse_int_int.l0 k x (i : Int) ((l.length : Int) - 1 - (i : Int)) = some l.reverse := by
  induction d with
  | zero =>
    intro k i x hx hi hd hk hat
    obtain ⟨k, rfl⟩ : ∃ m, k = m + 1 := ⟨k - 1, by omega⟩
    simp only [slices_Reverse_int_int.l0]
    rw [if_neg (by omega)]
    refine congrArg some (all_eq x l.reverse (by simp [hx]) fun t ht => ?_)
    rw [List.length_reverse] at ht
    rw [hat t ht, if_pos (by omega), List.getElem?_reverse ht]
  | succ d ih =>
    intro k i x hx hi hd hk hat
    obtain ⟨k, rfl⟩ : ∃ m, k = m + 1 := ⟨k - 1, by omega⟩
    simp only [slices_Reverse_int_int.l0]
    by_cases c : (i : Int) < (l.length : Int) - 1 - (i : Int)
    · obtain ⟨j, hj⟩ : ∃ j : Nat, l.length = i + j + 1 := ⟨l.length - i - 1, by omega⟩
      have ej : (l.length : Int) - 1 - (i : Int) = (j : Int) := by omega
      rw [ej] at c ⊢
      have e2 : wrap64 ((j : Int) - 1) = (l.length : Int) - 1 - ((i + 1 : Nat) : Int) := by
        rw [w64 (by omega) (by omega)]
        omega
      rw [if_pos c, if_pos (by omega), if_pos (by omega), if_pos (by omega), if_pos (by omega), wnext i (by omega), e2]
      have xi : rd x (i : Int) = l[i] := by
        have := hat i (by omega)
        rw [if_neg (by omega), List.getElem?_eq_getElem (by omega : i < l.length)] at this
        simp [rd, List.getD, this]
      have xj : rd x (j : Int) = l[j] := by
        have := hat j (by omega)
        rw [if_neg (by omega), List.getElem?_eq_getElem (by omega : j < l.length)] at this
        simp [rd, List.getD, this]
      rw [xi, xj, Int.toNat_natCast, Int.toNat_natCast]
      refine ih k (i + 1) _ (by simpa using hx) (by omega) (by omega) (by omega) fun t ht => ?_
      by_cases tj : t = j
      · subst tj
        rw [List.getElem?_set_self (by simp; omega), if_pos (by omega), show l.length - 1 - t = i by omega, List.getElem?_eq_getElem (by omega : i < l.length)]
      · rw [List.getElem?_set_ne (by omega)]
        by_cases ti : t = i
        · subst ti
          rw [List.getElem?_set_self (by omega), if_pos (by omega), show l.length - 1 - t = j by omega, List.getElem?_eq_getElem (by omega : j < l.length)]
        · rw [List.getElem?_set_ne (by omega), hat t ht]
          by_cases q : t < i ∨ l.length ≤ t + i
          · rw [if_pos q, if_pos (by omega)]
          · rw [if_neg q, if_neg (by omega)]
    · rw [if_neg c]
      refine congrArg some (all_eq x l.reverse (by simp [hx]) fun t ht => ?_)
      rw [List.length_reverse] at ht
      rw [hat t ht, List.getElem?_reverse ht]
      by_cases q : t < i ∨ l.length ≤ t + i
      · rw [if_pos q]
      · rw [if_neg q, show l.length - 1 - t = t by omega]
theorem rev_eq (l : List Int) (hl : l.length ≤ 1000) (k : Nat) (hk : 1000 < k) : slices_Reverse_int_int.f k l = some l.reverse := by
  unfold slices_Reverse_int_int.f
  have := rev_go l hl l.length k 0 l rfl (by omega) (by omega) (by omega) (fun t ht => by rw [if_neg (by omega)])
  have z : ((0 : Nat) : Int) = 0 := rfl
  rw [z] at this
  rwa [w64 (by omega) (by omega), show (l.length : Int) - 1 = (l.length : Int) - 1 - 0 by omega]
theorem path_up (g0 : List S50) (j : Nat) : ∀ k i s r, pathLoop g0 k i s = some r → pathLoop g0 (k + j) i s = some r := by
  intro k
  induction k with
  | zero => intro i s r h; simp [pathLoop] at h
  | succ k ih =>
    intro i s r h
    rw [show k + 1 + j = k + j + 1 by omega]
    simp only [pathLoop] at h ⊢
    by_cases c : i < (s.2.2.length : Int)
    · rw [if_pos c] at h ⊢
      by_cases c2 : 0 ≤ rd s.2.2 i ∧ rd s.2.2 i < (g0.length : Int) ∧ s.2.2.length ≤ 1000
      · rw [if_pos c2] at h ⊢
        exact ih _ _ _ h
      · rw [if_neg c2] at h
        cases h
    · rw [if_neg c] at h ⊢
      exact h
theorem path_both (g0 : List S50) (g1 : List (List Int)) (g2 : List Int) (a b : Int) (h0 : g0.length ≤ 1048576) (h1 : g1.length ≤ 1048576) (h2 : g2.length ≤ 1048576) (K : Nat) (hK : 3145800 < K) : ∃ r : List Int × Bool, r.1.length ≤ 200 ∧ spec_PathFrom.f K g0 g1 g2 a b = some r ∧ impl_PathFrom.f K g0 g1 g2 a b = some r := by
  unfold spec_PathFrom.f impl_PathFrom.f
  rw [graph_spec g0 g1 g2 h0 h1 h2 K hK, graph_impl g0 g1 g2 h0 h1 K hK]
  simp only [Option.bind_some]
  have bad : ∀ x y : Int, spec_PathFrom.j0 K x y true g0 g1 g2 = some ([], false) := fun x y => by
    obtain ⟨K, rfl⟩ : ∃ m, K = m + 1 := ⟨K - 1, by omega⟩
    simp [spec_PathFrom.j0]
  cases hg : gOkB g0 g1 g2 with
  | false => exact ⟨([], false), by simp, by rw [if_neg (by simp), bad], by rw [if_neg (fun h => Bool.noConfusion h.1)]⟩
  | true =>
    rw [if_pos rfl]
    by_cases a0 : a < 0
    · exact ⟨([], false), by simp, by rw [if_pos a0, bad], by rw [if_neg (fun h => by omega)]⟩
    by_cases a1 : a ≥ (g1.length : Int)
    · exact ⟨([], false), by simp, by rw [if_neg a0, if_pos a1, bad], by rw [if_neg (fun h => by omega)]⟩
    by_cases b0 : b < 0
    · exact ⟨([], false), by simp, by rw [if_neg a0, if_neg a1, if_pos b0, bad], by rw [if_neg (fun h => by omega)]⟩
    by_cases b1 : b ≥ (g0.length : Int)
    · exact ⟨([], false), by simp, by rw [if_neg a0, if_neg a1, if_neg b0, decide_eq_true b1, bad], by rw [if_neg (fun h => by omega)]⟩
    rw [if_neg a0, if_neg a1, if_neg b0, decide_eq_false b1, if_pos ⟨rfl, by omega, by omega, by omega, by omega⟩]
    have ok := g_ok hg
    have hn0 := ok.n0
    obtain ⟨i, rfl⟩ : ∃ i : Nat, a = (i : Int) := ⟨a.toNat, by omega⟩
    have hi : i < g1.length := by omega
    have hr := ok.r1 _ (List.getElem_mem hi)
    rw [L1_at g1 i hi]
    have hok : pathOk g0 g1[i] = true := by
      simp only [pathOk, Bool.and_eq_true, decide_eq_true_eq, List.all_eq_true]
      exact ⟨hn0, ⟨hr.1, fun n hn => hr.2 n hn⟩, fun x hx => ⟨(ok.e1 x hx).1, fun n hn => (ok.e1 x hx).2 n hn⟩⟩
    rw [if_pos hok]
    have rep : ∀ n : Int, rdOf false (List.replicate g0.length false) n = false := fun n => by
      simp only [rdOf, List.getD_eq_getElem?_getD, List.getElem?_replicate]
      split <;> rfl
    have s0 : POk g0.length (List.replicate g0.length false, List.replicate g0.length 0, ([] : List Int)) :=
      ⟨by simp, by simp, by simp, by simp, fun n _ hn => (Bool.noConfusion ((rep n).symm.trans hn)), fun i hi => absurd hi (by simp)⟩
    have s1 := pfold_ok (-1) g1[i] (fun n hn => (hr.2 n hn).2) _ s0 (Or.inl rfl)
    obtain ⟨s, p1, p2⟩ := path_some ok 200 0 _ s1 (by omega)
    have z : ((0 : Nat) : Int) = 0 := rfl
    rw [z] at p1
    have pK := path_up g0 (K - 201) 201 0 _ s p1
    rw [show 201 + (K - 201) = K by omega] at pK
    rw [pK]
    simp only [Option.bind_some]
    have hsh := p2.short
    have hl := p2.len
    obtain ⟨K, rfl⟩ : ∃ m, K = m + 1 := ⟨K - 1, by omega⟩
    simp only [spec_PathFrom.j0, Bool.false_eq_true, if_false]
    rw [if_pos (by omega), if_pos (by omega), if_pos (by omega), Int.toNat_natCast]
    obtain ⟨K1, q1, q2⟩ := row_go g0 g1 g2 i b hi hr.1 hr.2 hn0 _ K 0 _ s0 (by omega) rfl (by omega)
    rw [List.drop_zero, z] at q2
    obtain ⟨K2, q3, q4⟩ := nodes_go g0 g1 g2 ok b 201 0 K1 _ s (by omega) s1 p1 (by omega)
    rw [q2.trans q4]
    obtain ⟨K3, rfl⟩ : ∃ m, K2 = m + 1 := ⟨K2 - 1, by omega⟩
    simp only [spec_PathFrom.l1]
    rw [if_neg (by omega), if_pos (by omega), if_pos (by omega)]
    by_cases hb : rdOf false s.1 b = true
    · rw [if_pos hb, if_pos hb]
      obtain ⟨j, j1, j2⟩ := p2.had b (by omega) hb
      obtain ⟨c, c1, c2, c3⟩ := chain hn0 p2 j b j1 j2
      refine ⟨(c.reverse, true), by simp; omega, ?_, ?_⟩
      · rw [c3 K3 [] (by omega) (by simp; omega)]
        simp
      · rw [c2 (K + 1) [] (by omega) (by simp; omega)]
        simp only [Option.bind_some, List.nil_append]
        rw [rev_eq c (by omega) _ (by omega)]
        rfl
    · rw [if_neg hb, if_neg hb]
      exact ⟨([], false), by simp, rfl, rfl⟩

theorem FnExactPathFrom (l0 : List S72) (l1 : List (List Int)) (l2 : List Int) (a b : Int) (h0 : l0.length ≤ maxLen ∧ ∀ x ∈ l0, (x.f0.length ≤ maxLen ∧ ∀ y ∈ x.f0, (Lit.int .i64 y).wf = true) ∧ (x.f1.length ≤ maxLen ∧ ∀ y ∈ x.f1, (Lit.int .i64 y).wf = true)) (h1 : l1.length ≤ maxLen ∧ ∀ x ∈ l1, x.length ≤ maxLen ∧ ∀ y ∈ x, (Lit.int .i64 y).wf = true) (h2 : l2.length ≤ maxLen ∧ ∀ y ∈ l2, (Lit.int .i64 y).wf = true) (ha : (Lit.int .i64 a).wf = true) (hb : (Lit.int .i64 b).wf = true) : ∃ k, laws_FnExactPathFrom.f k l0 l1 l2 a b = some true := by
  obtain ⟨K, hK⟩ : ∃ K, 3145800 < K := ⟨3145801, by omega⟩
  refine ⟨K, ?_⟩
  obtain ⟨z, hz, hz2⟩ := szGraph_eq l0 l1 l2 h0.1 (fun x hx => ⟨(h0.2 x hx).1.1, (h0.2 x hx).2.1⟩) h1.1 (fun x hx => (h1.2 x hx).1) h2.1 K (by omega)
  unfold laws_FnExactPathFrom.f
  refine sb hz ?_
  by_cases hz0 : z < 0
  · exact st hz0 rfl
  have hB := hz2.resolve_left hz0
  have ho := toGraph_eq l0 l1 l2 hB K (by omega)
  have hl : (l0.map cvN).length ≤ 1048576 := by simpa using hB.n0
  obtain ⟨⟨r, rb⟩, hr, rs, ri⟩ := path_both (l0.map cvN) l1 l2 a b hl hB.r0 hB.p0 K hK
  have hr : r.length ≤ 200 := hr
  obtain ⟨mk, hm, hm0⟩ := markGraph_some l0 l1 l2 hB K (by omega)
  have e4 := laws_markIntS_eq r 1 ⟨by omega, by omega⟩ (by omega) K (by omega)
  have e5 := laws_heldIntS_eq r 1 ⟨by omega, by omega⟩ (by omega) K (by omega)
  refine sf hz0 (sb ho ?_)
  dsimp only
  refine sb rs (sb ri (sb (laws_eqIntS_self r (by omega) K (by omega)) (sb (eqGraph_eq l0 l1 l2 hB K (by omega)) (sb hm (sb e4 ?_)))))
  dsimp only
  exact sb e5 (if_pos ⟨rfl, rfl, rfl, hm0, neg_len _, rfl⟩)

end Go.Proofs.Ytdaikmojalfimaa.Pure
