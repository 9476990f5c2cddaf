/- PathLoops of the program answers as the reference does, at every graph of at most 2^20 elements in all, leaves its argument alone, and answers with new memory each time. No condition. -/
import Derived.Test.YtdaikmojalfimaaQFnExactPathLoopsx10
namespace Go.Proofs.Ytdaikmojalfimaa.Pure
open Go.RowKit Go.Proofs.Ytdaikmojalfimaa.QFnExactPathLoops Go.Proofs.YtdaikmojalfimaaW.PrintWords Go.Proofs.YtdaikmojalfimaaW.PrintLast Go.Proofs.YtdaikmojalfimaaW.PrintMore
set_option linter.unusedVariables false
set_option linter.unusedSimpArgs false

theorem w64 {x : Int} (h0 : -9223372036854775808 ≤ x) (h1 : x ≤ 9223372036854775807) : wrap64 x = x := by
  unfold wrap64
  omega
theorem wnext (i : Nat) (h : i < 9223372036854775807) : wrap64 ((i : Int) + 1) = ((i + 1 : Nat) : Int) := by
  unfold wrap64
  omega
theorem rdOf_at {α : Type} (d : α) (l : List α) (i : Nat) (h : i < l.length) : rdOf d l (i : Int) = l[i] := by
  simp [rdOf, List.getD, h]
theorem rd_at (l : List Int) (i : Nat) (h : i < l.length) : rd l (i : Int) = l[i] := by
  simp [rd, List.getD, h]
theorem set_step {α : Type} (l m : List α) (i : Nat) (v : α) (hl : l.length = m.length) (hi : i < m.length) (hv : m[i]? = some v)
    (hp : ∀ j, j < i → l[j]? = m[j]?) : (l.set i v).length = m.length ∧ ∀ j, j < i + 1 → (l.set i v)[j]? = m[j]? := by
  refine ⟨by simp [hl], fun j hj => ?_⟩
  rw [List.getElem?_set]
  by_cases e : i = j
  · subst e
    rw [if_pos rfl, if_pos (by omega), hv]
  · rw [if_neg e]
    exact hp j (by omega)
theorem all_eq {α : Type} (l m : List α) (hl : l.length = m.length) (hp : ∀ j, j < m.length → l[j]? = m[j]?) : l = m := by
  apply List.ext_getElem?
  intro j
  by_cases hj : j < m.length
  · exact hp j hj
  · rw [List.getElem?_eq_none (by omega), List.getElem?_eq_none (by omega)]

theorem b64 {n : Int} (h : (Lit.int .i64 n).wf = true) : -9223372036854775808 ≤ n ∧ n ≤ 9223372036854775807 := by
  simp [Lit.wf, IntKind.min, IntKind.max, IntKind.signed, IntKind.bits] at h
  omega
theorem b8 {n : Int} (h : (Lit.int .u8 n).wf = true) : 0 ≤ n ∧ n ≤ 255 := by
  simp [Lit.wf, IntKind.min, IntKind.max, IntKind.signed, IntKind.bits] at h
  omega

theorem laws_toIntS_go (l : List Int) (hl : l.length ≤ 1048576) (d : Nat) : ∀ (k i : Nat) (acc : List Int), acc.length = l.length → i ≤ l.length → l.length - i = d → d < k →
    (∀ j, j < i → acc[j]? = l[j]?) → laws_toIntS.l0 k l acc (i : Int) = some l := by
  induction d with
  | zero =>
    intro k i acc ha hi hd hk hp
    obtain ⟨k, rfl⟩ : ∃ m, k = m + 1 := ⟨k - 1, by omega⟩
    simp only [laws_toIntS.l0]
    rw [if_neg (by omega)]
    exact congrArg some (all_eq acc l ha (fun j hj => hp j (by omega)))
  | succ d ih =>
    intro k i acc ha hi hd hk hp
    obtain ⟨k, rfl⟩ : ∃ m, k = m + 1 := ⟨k - 1, by omega⟩
    simp only [laws_toIntS.l0]
    rw [if_pos (by omega), if_pos (by omega), if_pos (by omega), wnext i (by omega), rd_at l i (by omega), Int.toNat_natCast]
    obtain ⟨h1, h2⟩ := set_step acc l i l[i] ha (by omega) (by simp) hp
    exact ih k (i + 1) _ h1 (by omega) (by omega) (by omega) h2
theorem laws_toIntS_eq (l : List Int) (hl : l.length ≤ 1048576) (k : Nat) (hk : 1048576 < k) : laws_toIntS.f k l = some l := by
  unfold laws_toIntS.f
  rw [if_pos (by omega), if_pos (by omega)]
  exact laws_toIntS_go l hl l.length k 0 _ (by simp) (by omega) (by omega) (by omega) (by intro j hj; omega)

theorem laws_eqIntS_go (l : List Int) (hl : l.length ≤ 1048576) (d : Nat) : ∀ (k i : Nat), i ≤ l.length → l.length - i = d → d < k → laws_eqIntS.l0 k l l (i : Int) = some true := by
  induction d with
  | zero =>
    intro k i hi hd hk
    obtain ⟨k, rfl⟩ : ∃ m, k = m + 1 := ⟨k - 1, by omega⟩
    simp only [laws_eqIntS.l0]
    rw [if_neg (by omega)]
  | succ d ih =>
    intro k i hi hd hk
    obtain ⟨k, rfl⟩ : ∃ m, k = m + 1 := ⟨k - 1, by omega⟩
    simp only [laws_eqIntS.l0]
    rw [if_pos (by omega), if_pos (by omega), if_pos (by omega), wnext i (by omega), if_pos trivial]
    exact ih k (i + 1) (by omega) (by omega) (by omega)
theorem laws_eqIntS_self (l : List Int) (hl : l.length ≤ 1048576) (k : Nat) (hk : 1048576 < k) : laws_eqIntS.f k l l = some true := by
  unfold laws_eqIntS.f
  rw [if_pos rfl]
  exact laws_eqIntS_go l hl l.length k 0 (by omega) (by omega) (by omega)

def laws_markIntS_list (l : List Int) (n : Int) : List Int := (List.range l.length).map fun j : Nat => (fun m : Int => m) (n + (j : Int))
theorem laws_markIntS_list_length (l : List Int) (n : Int) : (laws_markIntS_list l n).length = l.length := by simp [laws_markIntS_list]
theorem laws_markIntS_list_at (l : List Int) (n : Int) (i : Nat) (h : i < l.length) : (laws_markIntS_list l n)[i]? = some ((fun m : Int => m) (n + (i : Int))) := by simp [laws_markIntS_list, h]
theorem laws_markIntS_go (l : List Int) (n : Int) (hn : 0 ≤ n ∧ n ≤ 4611686018427387904) (hl : l.length ≤ 1048576) (d : Nat) : ∀ (k i : Nat) (acc : List Int), acc.length = (laws_markIntS_list l n).length → i ≤ l.length → l.length - i = d → d < k →
    (∀ j, j < i → acc[j]? = (laws_markIntS_list l n)[j]?) → laws_markIntS.l0 k acc (n + (i : Int)) (i : Int) = some (n + (l.length : Int), laws_markIntS_list l n) := by
  induction d with
  | zero =>
    intro k i acc ha hi hd hk hp
    obtain ⟨k, rfl⟩ : ∃ m, k = m + 1 := ⟨k - 1, by omega⟩
    have hL := laws_markIntS_list_length l n
    simp only [laws_markIntS.l0]
    rw [if_neg (by omega), all_eq acc (laws_markIntS_list l n) ha (fun j hj => hp j (by omega)), show i = l.length by omega]
  | succ d ih =>
    intro k i acc ha hi hd hk hp
    obtain ⟨k, rfl⟩ : ∃ m, k = m + 1 := ⟨k - 1, by omega⟩
    have hL := laws_markIntS_list_length l n
    simp only [laws_markIntS.l0]
    rw [if_pos (by omega), if_pos (by omega), wnext i (by omega), Int.toNat_natCast, w64 (by omega) (by omega), show n + (i : Int) + 1 = n + ((i + 1 : Nat) : Int) by omega]
    obtain ⟨h1, h2⟩ := set_step acc (laws_markIntS_list l n) i _ ha (by omega) (laws_markIntS_list_at l n i (by omega)) hp
    exact ih k (i + 1) _ h1 (by omega) (by omega) (by omega) h2
theorem laws_markIntS_eq (l : List Int) (n : Int) (hn : 0 ≤ n ∧ n ≤ 4611686018427387904) (hl : l.length ≤ 1048576) (k : Nat) (hk : 1048576 < k) : laws_markIntS.f k l n = some (n + (l.length : Int), laws_markIntS_list l n) := by
  have hL := laws_markIntS_list_length l n
  have h := laws_markIntS_go l n hn hl l.length k 0 l (by omega) (by omega) (by omega) (by omega) (by intro j hj; omega)
  unfold laws_markIntS.f
  simpa using h

theorem laws_heldIntS_go (l : List Int) (n : Int) (hn : 0 ≤ n ∧ n ≤ 4611686018427387904) (hl : l.length ≤ 1048576) (d : Nat) : ∀ (k i : Nat), i ≤ l.length → l.length - i = d → d < k →
    laws_heldIntS.l0 k (laws_markIntS_list l n) (n + (i : Int)) (i : Int) = some (n + (l.length : Int)) := by
  induction d with
  | zero =>
    intro k i hi hd hk
    obtain ⟨k, rfl⟩ : ∃ m, k = m + 1 := ⟨k - 1, by omega⟩
    have hL := laws_markIntS_list_length l n
    simp only [laws_heldIntS.l0]
    rw [if_neg (by omega), show i = l.length by omega]
  | succ d ih =>
    intro k i hi hd hk
    obtain ⟨k, rfl⟩ : ∃ m, k = m + 1 := ⟨k - 1, by omega⟩
    have hL := laws_markIntS_list_length l n
    have hv : (laws_markIntS_list l n)[i] = (fun m : Int => m) (n + (i : Int)) := by simp [laws_markIntS_list]
    simp only [laws_heldIntS.l0]
    rw [if_pos (by omega), if_pos (by omega), rd_at (laws_markIntS_list l n) i (by omega), hv, if_pos rfl, wnext i (by omega), w64 (by omega) (by omega), show n + (i : Int) + 1 = n + ((i + 1 : Nat) : Int) by omega]
    exact ih k (i + 1) (by omega) (by omega) (by omega)
theorem laws_heldIntS_eq (l : List Int) (n : Int) (hn : 0 ≤ n ∧ n ≤ 4611686018427387904) (hl : l.length ≤ 1048576) (k : Nat) (hk : 1048576 < k) : laws_heldIntS.f k (laws_markIntS_list l n) n = some (n + (l.length : Int)) := by
  have h := laws_heldIntS_go l n hn hl l.length k 0 (by omega) (by omega) (by omega)
  unfold laws_heldIntS.f
  simpa using h

theorem neg_len (n : Nat) : ¬ ((1 : Int) + (n : Int) < 0) := by omega
theorem bne_no (b : Bool) : ¬ ((b != b) = true) := by simp
theorem ff : ¬ (false = true) := by simp
theorem ntt : ¬ ((!true) = true) := by simp
theorem sb {α β : Type} {o : Option α} {v : α} {f : α → Option β} {r : Option β} (h : o = some v) (k : f v = r) : o.bind f = r := by rw [h]; exact k
theorem st {α : Type} {c : Prop} [Decidable c] {a b r : α} (h : c) (k : a = r) : (if c then a else b) = r := by rw [if_pos h]; exact k
theorem sf {α : Type} {c : Prop} [Decidable c] {a b r : α} (h : ¬ c) (k : b = r) : (if c then a else b) = r := by rw [if_neg h]; exact k

def cvN (x : S72) : S50 := ⟨x.f0, x.f1⟩
theorem T72_at (l : List S72) (i : Nat) (h : i < l.length) : rd_T72 l (i : Int) = l[i] := by
  simp [rd_T72, List.getD, h]
theorem T50_at (l : List S50) (i : Nat) (h : i < l.length) : rd_T50 l (i : Int) = l[i] := by
  simp [rd_T50, List.getD, h]
theorem L1_at (l : List (List Int)) (i : Nat) (h : i < l.length) : rd_L1 l (i : Int) = l[i] := by
  simp [rd_L1, List.getD, h]
theorem toNode_eq (a b : List Int) (ha : a.length ≤ 1048576) (hb : b.length ≤ 1048576) (k : Nat) (hk : 1048576 < k) : laws_toNode.f k a b = some (a, b) := by
  unfold laws_toNode.f
  rw [laws_toIntS_eq a ha k hk, laws_toIntS_eq b hb k hk]
  rfl
theorem eqNode_eq (a b : List Int) (ha : a.length ≤ 1048576) (hb : b.length ≤ 1048576) (k : Nat) (hk : 1048576 < k) : laws_eqNode.f k a b a b = some true := by
  unfold laws_eqNode.f
  rw [laws_eqIntS_self a ha k hk, laws_eqIntS_self b hb k hk]
  rfl

theorem laws_toNodeS_go (l : List S72) (hl : l.length ≤ 1048576) (hx : ∀ x ∈ l, x.f0.length ≤ 1048576 ∧ x.f1.length ≤ 1048576) (d : Nat) : ∀ (k i : Nat) (acc : List S50), acc.length = (l.map cvN).length → i ≤ l.length → l.length - i = d → d + 1048577 < k →
    (∀ j, j < i → acc[j]? = (l.map cvN)[j]?) → laws_toNodeS.l0 k l acc (i : Int) = some (l.map cvN) := by
  have hL : (l.map cvN).length = l.length := by simp
  induction d with
  | zero =>
    intro k i acc ha hi hd hk hp
    obtain ⟨k, rfl⟩ : ∃ m, k = m + 1 := ⟨k - 1, by omega⟩
    simp only [laws_toNodeS.l0]
    rw [if_neg (by omega)]
    exact congrArg some (all_eq acc (l.map cvN) ha (fun j hj => hp j (by omega)))
  | succ d ih =>
    intro k i acc ha hi hd hk hp
    obtain ⟨k, rfl⟩ : ∃ m, k = m + 1 := ⟨k - 1, by omega⟩
    simp only [laws_toNodeS.l0]
    rw [if_pos (by omega), if_pos (by omega), wnext i (by omega), T72_at l i (by omega), toNode_eq l[i].f0 l[i].f1 (hx _ (List.getElem_mem _)).1 (hx _ (List.getElem_mem _)).2 k (by omega)]
    simp only [Option.bind_some]
    rw [if_pos (by omega), Int.toNat_natCast]
    obtain ⟨h1, h2⟩ := set_step acc (l.map cvN) i (cvN l[i]) ha (by omega) (by simp [show i < l.length by omega]) hp
    exact ih k (i + 1) _ h1 (by omega) (by omega) (by omega) h2
theorem laws_toNodeS_eq (l : List S72) (hl : l.length ≤ 1048576) (hx : ∀ x ∈ l, x.f0.length ≤ 1048576 ∧ x.f1.length ≤ 1048576) (k : Nat) (hk : 2097153 < k) : laws_toNodeS.f k l = some (l.map cvN) := by
  unfold laws_toNodeS.f
  rw [if_pos (by omega), if_pos (by omega)]
  exact laws_toNodeS_go l hl hx l.length k 0 _ (by simp) (by omega) (by omega) (by omega) (by intro j hj; omega)

theorem laws_toIntSS_go (l : List (List Int)) (hl : l.length ≤ 1048576) (hx : ∀ x ∈ l, x.length ≤ 1048576) (d : Nat) : ∀ (k i : Nat) (acc : List (List Int)), acc.length = (l.map (fun x => x)).length → i ≤ l.length → l.length - i = d → d + 1048577 < k →
    (∀ j, j < i → acc[j]? = (l.map (fun x => x))[j]?) → laws_toIntSS.l0 k l acc (i : Int) = some (l.map (fun x => x)) := by
  have hL : (l.map (fun x => x)).length = l.length := by simp
  induction d with
  | zero =>
    intro k i acc ha hi hd hk hp
    obtain ⟨k, rfl⟩ : ∃ m, k = m + 1 := ⟨k - 1, by omega⟩
    simp only [laws_toIntSS.l0]
    rw [if_neg (by omega)]
    exact congrArg some (all_eq acc (l.map (fun x => x)) ha (fun j hj => hp j (by omega)))
  | succ d ih =>
    intro k i acc ha hi hd hk hp
    obtain ⟨k, rfl⟩ : ∃ m, k = m + 1 := ⟨k - 1, by omega⟩
    simp only [laws_toIntSS.l0]
    rw [if_pos (by omega), if_pos (by omega), wnext i (by omega), L1_at l i (by omega), laws_toIntS_eq l[i] (hx _ (List.getElem_mem _)) k (by omega)]
    simp only [Option.bind_some]
    rw [if_pos (by omega), Int.toNat_natCast]
    obtain ⟨h1, h2⟩ := set_step acc (l.map (fun x => x)) i ((fun x => x) l[i]) ha (by omega) (by simp [show i < l.length by omega]) hp
    exact ih k (i + 1) _ h1 (by omega) (by omega) (by omega) h2
theorem laws_toIntSS_eq (l : List (List Int)) (hl : l.length ≤ 1048576) (hx : ∀ x ∈ l, x.length ≤ 1048576) (k : Nat) (hk : 2097153 < k) : laws_toIntSS.f k l = some (l.map (fun x => x)) := by
  unfold laws_toIntSS.f
  rw [if_pos (by omega), if_pos (by omega)]
  exact laws_toIntSS_go l hl hx l.length k 0 _ (by simp) (by omega) (by omega) (by omega) (by intro j hj; omega)

theorem laws_eqNodeS_go (l : List S50) (hl : l.length ≤ 1048576) (hx : ∀ x ∈ l, x.f0.length ≤ 1048576 ∧ x.f1.length ≤ 1048576) (d : Nat) : ∀ (k i : Nat), i ≤ l.length → l.length - i = d → d + 1048577 < k → laws_eqNodeS.l0 k l l (i : Int) = some true := by
  induction d with
  | zero =>
    intro k i hi hd hk
    obtain ⟨k, rfl⟩ : ∃ m, k = m + 1 := ⟨k - 1, by omega⟩
    simp only [laws_eqNodeS.l0]
    rw [if_neg (by omega)]
  | succ d ih =>
    intro k i hi hd hk
    obtain ⟨k, rfl⟩ : ∃ m, k = m + 1 := ⟨k - 1, by omega⟩
    simp only [laws_eqNodeS.l0]
    rw [if_pos (by omega), if_pos (by omega), if_pos (by omega), wnext i (by omega), T50_at l i (by omega), eqNode_eq l[i].f0 l[i].f1 (hx _ (List.getElem_mem _)).1 (hx _ (List.getElem_mem _)).2 k (by omega)]
    simp only [Option.bind_some, if_true]
    exact ih k (i + 1) (by omega) (by omega) (by omega)
theorem laws_eqNodeS_self (l : List S50) (hl : l.length ≤ 1048576) (hx : ∀ x ∈ l, x.f0.length ≤ 1048576 ∧ x.f1.length ≤ 1048576) (k : Nat) (hk : 2097153 < k) : laws_eqNodeS.f k l l = some true := by
  unfold laws_eqNodeS.f
  rw [if_pos rfl]
  exact laws_eqNodeS_go l hl hx l.length k 0 (by omega) (by omega) (by omega)

theorem laws_eqIntSS_go (l : List (List Int)) (hl : l.length ≤ 1048576) (hx : ∀ x ∈ l, x.length ≤ 1048576) (d : Nat) : ∀ (k i : Nat), i ≤ l.length → l.length - i = d → d + 1048577 < k → laws_eqIntSS.l0 k l l (i : Int) = some true := by
  induction d with
  | zero =>
    intro k i hi hd hk
    obtain ⟨k, rfl⟩ : ∃ m, k = m + 1 := ⟨k - 1, by omega⟩
    simp only [laws_eqIntSS.l0]
    rw [if_neg (by omega)]
  | succ d ih =>
    intro k i hi hd hk
    obtain ⟨k, rfl⟩ : ∃ m, k = m + 1 := ⟨k - 1, by omega⟩
    simp only [laws_eqIntSS.l0]
    rw [if_pos (by omega), if_pos (by omega), if_pos (by omega), wnext i (by omega), L1_at l i (by omega), laws_eqIntS_self l[i] (hx _ (List.getElem_mem _)) k (by omega)]
    simp only [Option.bind_some, if_true]
    exact ih k (i + 1) (by omega) (by omega) (by omega)
theorem laws_eqIntSS_self (l : List (List Int)) (hl : l.length ≤ 1048576) (hx : ∀ x ∈ l, x.length ≤ 1048576) (k : Nat) (hk : 2097153 < k) : laws_eqIntSS.f k l l = some true := by
  unfold laws_eqIntSS.f
  rw [if_pos rfl]
  exact laws_eqIntSS_go l hl hx l.length k 0 (by omega) (by omega) (by omega)

structure BigG (l0 : List S72) (l1 : List (List Int)) (l2 : List Int) : Prop where
  n0 : l0.length ≤ 1048576
  n1 : ∀ x ∈ l0, x.f0.length ≤ 1048576 ∧ x.f1.length ≤ 1048576
  r0 : l1.length ≤ 1048576
  r1 : ∀ x ∈ l1, x.length ≤ 1048576
  p0 : l2.length ≤ 1048576
theorem toGraph_eq (l0 : List S72) (l1 : List (List Int)) (l2 : List Int) (h : BigG l0 l1 l2) (k : Nat) (hk : 2097153 < k) : laws_toGraph.f k l0 l1 l2 = some (l0.map cvN, l1, l2) := by
  unfold laws_toGraph.f
  rw [laws_toNodeS_eq l0 h.n0 h.n1 k hk, laws_toIntSS_eq l1 h.r0 h.r1 k hk, laws_toIntS_eq l2 h.p0 k (by omega)]
  simp
theorem eqGraph_eq (l0 : List S72) (l1 : List (List Int)) (l2 : List Int) (h : BigG l0 l1 l2) (k : Nat) (hk : 2097153 < k) : laws_eqGraph.f k (l0.map cvN) l1 l2 (l0.map cvN) l1 l2 = some true := by
  unfold laws_eqGraph.f
  rw [laws_eqNodeS_self (l0.map cvN) (by simpa using h.n0) (by intro x hx; obtain ⟨y, hy, rfl⟩ := List.mem_map.1 hx; exact h.n1 y hy) k hk, laws_eqIntSS_self l1 h.r0 h.r1 k hk, laws_eqIntS_self l2 h.p0 k (by omega)]
  rfl
theorem szInt_eq (l : List Int) (a : Int) (ha : 0 ≤ a ∧ a ≤ 1048576) (hl : l.length ≤ maxLen) : laws_szIntS.f l a = some (if a < l.length then -1 else a - (l.length : Int)) := by
  have : (l.length : Int) ≤ 9223372036854775807 := by
    have : maxLen = 9223372036854775807 := rfl
    omega
  unfold laws_szIntS.f
  rw [w64 (by omega) (by omega)]
  by_cases h : a < l.length
  · rw [if_pos h, if_pos (by omega)]
  · rw [if_neg h, if_neg (by omega)]
def leftOk (a r : Int) (P : Prop) : Prop := r < 0 ∨ (r ≤ a ∧ P)
theorem szInt_left (l : List Int) (a : Int) (ha : 0 ≤ a ∧ a ≤ 1048576) (hl : l.length ≤ maxLen) : ∃ r, laws_szIntS.f l a = some r ∧ leftOk a r (l.length ≤ 1048576) := by
  refine ⟨_, szInt_eq l a ha hl, ?_⟩
  unfold leftOk
  by_cases h : a < l.length
  · rw [if_pos h]
    omega
  · rw [if_neg h]
    omega
theorem szNode_left (x y : List Int) (a : Int) (ha : 0 ≤ a ∧ a ≤ 1048576) (hx : x.length ≤ maxLen) (hy : y.length ≤ maxLen) : ∃ r, laws_szNode.f x y a = some r ∧ leftOk a r (x.length ≤ 1048576 ∧ y.length ≤ 1048576) := by
  unfold laws_szNode.f
  obtain ⟨r, h1, h2⟩ := szInt_left x a ha hx
  rw [h1]
  simp only [Option.bind_some]
  by_cases g : r < 0
  · rw [if_pos g]
    exact ⟨_, rfl, Or.inl (by omega)⟩
  · rw [if_neg g]
    have h2 := h2.resolve_left g
    obtain ⟨q, h3, h4⟩ := szInt_left y r (by omega) hy
    rw [h3]
    simp only [Option.bind_some]
    by_cases g2 : q < 0
    · rw [if_pos g2]
      exact ⟨_, rfl, Or.inl (by omega)⟩
    · rw [if_neg g2]
      have h4 := h4.resolve_left g2
      exact ⟨_, rfl, Or.inr ⟨by omega, h2.2, h4.2⟩⟩
theorem szNodeS_go (l : List S72) (hl : l.length ≤ 1048576) (hx : ∀ x ∈ l, x.f0.length ≤ maxLen ∧ x.f1.length ≤ maxLen) (d : Nat) : ∀ (k i : Nat) (a : Int), 0 ≤ a ∧ a ≤ 1048576 → i ≤ l.length → l.length - i = d → d < k → ∃ r, laws_szNodeS.l0 k l a (i : Int) = some r ∧ leftOk a r (∀ j (hj : j < l.length), i ≤ j → l[j].f0.length ≤ 1048576 ∧ l[j].f1.length ≤ 1048576) := by
  induction d with
  | zero =>
    intro k i a ha hi hd hk
    obtain ⟨k, rfl⟩ : ∃ m, k = m + 1 := ⟨k - 1, by omega⟩
    simp only [laws_szNodeS.l0]
    rw [if_neg (by omega)]
    exact ⟨a, rfl, Or.inr ⟨by omega, fun j hj hij => by omega⟩⟩
  | succ d ih =>
    intro k i a ha hi hd hk
    obtain ⟨k, rfl⟩ : ∃ m, k = m + 1 := ⟨k - 1, by omega⟩
    simp only [laws_szNodeS.l0]
    obtain ⟨r, h1, h2⟩ := szNode_left l[i].f0 l[i].f1 a ha (hx _ (List.getElem_mem _)).1 (hx _ (List.getElem_mem _)).2
    rw [if_pos (by omega), if_pos (by omega), wnext i (by omega), T72_at l i (by omega), h1]
    simp only [Option.bind_some]
    by_cases h : r < 0
    · rw [if_pos h]
      exact ⟨-1, rfl, Or.inl (by omega)⟩
    · rw [if_neg h]
      have h2 := h2.resolve_left h
      obtain ⟨q, h3, h4⟩ := ih k (i + 1) r (by omega) (by omega) (by omega) (by omega)
      refine ⟨q, h3, h4.imp id fun h4 => ⟨by omega, fun j hj hij => ?_⟩⟩
      by_cases e : i = j
      · subst e
        exact h2.2
      · exact h4.2 j hj (by omega)
theorem szIntSS_go (l : List (List Int)) (hl : l.length ≤ 1048576) (hx : ∀ x ∈ l, x.length ≤ maxLen) (d : Nat) : ∀ (k i : Nat) (a : Int), 0 ≤ a ∧ a ≤ 1048576 → i ≤ l.length → l.length - i = d → d < k → ∃ r, laws_szIntSS.l0 k l a (i : Int) = some r ∧ leftOk a r (∀ j (hj : j < l.length), i ≤ j → l[j].length ≤ 1048576) := by
  induction d with
  | zero =>
    intro k i a ha hi hd hk
    obtain ⟨k, rfl⟩ : ∃ m, k = m + 1 := ⟨k - 1, by omega⟩
    simp only [laws_szIntSS.l0]
    rw [if_neg (by omega)]
    exact ⟨a, rfl, Or.inr ⟨by omega, fun j hj hij => by omega⟩⟩
  | succ d ih =>
    intro k i a ha hi hd hk
    obtain ⟨k, rfl⟩ : ∃ m, k = m + 1 := ⟨k - 1, by omega⟩
    simp only [laws_szIntSS.l0]
    obtain ⟨r, h1, h2⟩ := szInt_left l[i] a ha (hx _ (List.getElem_mem _))
    rw [if_pos (by omega), if_pos (by omega), wnext i (by omega), L1_at l i (by omega), h1]
    simp only [Option.bind_some]
    by_cases h : r < 0
    · rw [if_pos h]
      exact ⟨-1, rfl, Or.inl (by omega)⟩
    · rw [if_neg h]
      have h2 := h2.resolve_left h
      obtain ⟨q, h3, h4⟩ := ih k (i + 1) r (by omega) (by omega) (by omega) (by omega)
      refine ⟨q, h3, h4.imp id fun h4 => ⟨by omega, fun j hj hij => ?_⟩⟩
      by_cases e : i = j
      · subst e
        exact h2.2
      · exact h4.2 j hj (by omega)
theorem szGraph_eq (l0 : List S72) (l1 : List (List Int)) (l2 : List Int) (h0 : l0.length ≤ maxLen) (h1 : ∀ x ∈ l0, x.f0.length ≤ maxLen ∧ x.f1.length ≤ maxLen) (h2 : l1.length ≤ maxLen) (h3 : ∀ x ∈ l1, x.length ≤ maxLen) (h4 : l2.length ≤ maxLen) (k : Nat) (hk : 1048576 < k) :
    ∃ r, laws_szGraph.f k l0 l1 l2 1048576 = some r ∧ (r < 0 ∨ BigG l0 l1 l2) := by
  have hm : (maxLen : Int) = 9223372036854775807 := rfl
  have a0 : ∃ r, laws_szNodeS.f k l0 1048576 = some r ∧ leftOk 1048576 r (l0.length ≤ 1048576 ∧ ∀ x ∈ l0, x.f0.length ≤ 1048576 ∧ x.f1.length ≤ 1048576) := by
    unfold laws_szNodeS.f
    rw [w64 (by omega) (by omega)]
    by_cases h : (1048576 : Int) - (l0.length : Int) < 0
    · rw [if_pos h]
      exact ⟨-1, rfl, Or.inl (by omega)⟩
    · rw [if_neg h]
      obtain ⟨r, g1, g2⟩ := szNodeS_go l0 (by omega) h1 l0.length k 0 (1048576 - (l0.length : Int)) (by omega) (by omega) (by omega) (by omega)
      refine ⟨r, g1, g2.imp id fun g2 => ⟨by omega, by omega, fun x hx => ?_⟩⟩
      obtain ⟨j, hj, rfl⟩ := List.getElem_of_mem hx
      exact g2.2 j hj (by omega)
  obtain ⟨r0, e0, f0⟩ := a0
  unfold laws_szGraph.f
  rw [e0]
  simp only [Option.bind_some]
  by_cases g0 : r0 < 0
  · rw [if_pos g0]
    exact ⟨-1, rfl, Or.inl (by omega)⟩
  rw [if_neg g0]
  have f0 := f0.resolve_left g0
  have a1 : ∃ r, laws_szIntSS.f k l1 r0 = some r ∧ leftOk r0 r (l1.length ≤ 1048576 ∧ ∀ x ∈ l1, x.length ≤ 1048576) := by
    unfold laws_szIntSS.f
    rw [w64 (by omega) (by omega)]
    by_cases h : r0 - (l1.length : Int) < 0
    · rw [if_pos h]
      exact ⟨-1, rfl, Or.inl (by omega)⟩
    · rw [if_neg h]
      obtain ⟨r, g1, g2⟩ := szIntSS_go l1 (by omega) h3 l1.length k 0 (r0 - (l1.length : Int)) (by omega) (by omega) (by omega) (by omega)
      refine ⟨r, g1, g2.imp id fun g2 => ⟨by omega, by omega, fun x hx => ?_⟩⟩
      obtain ⟨j, hj, rfl⟩ := List.getElem_of_mem hx
      exact g2.2 j hj (by omega)
  obtain ⟨r1, e1, f1⟩ := a1
  rw [e1]
  simp only [Option.bind_some]
  by_cases g1 : r1 < 0
  · rw [if_pos g1]
    exact ⟨-1, rfl, Or.inl (by omega)⟩
  rw [if_neg g1]
  have f1 := f1.resolve_left g1
  obtain ⟨r2, e2, f2⟩ := szInt_left l2 r1 (by omega) h4
  rw [e2]
  simp only [Option.bind_some]
  by_cases g2 : r2 < 0
  · rw [if_pos g2]
    exact ⟨-1, rfl, Or.inl (by omega)⟩
  rw [if_neg g2]
  have f2 := f2.resolve_left g2
  exact ⟨r2, rfl, Or.inr ⟨f0.2.1, f0.2.2, f1.2.1, f1.2.2, f2.2⟩⟩

def nodeBad (N : Int) (x : S50) : Bool := decide (4 < x.f0.length) || (decide (4 < x.f1.length) || x.f0.any (offP (-1) N))
def rootBad (N : Int) (x : List Int) : Bool := decide (8 < x.length) || x.any (offP (-1) N)
theorem refs_go (l : List Int) (N : Int) (hl : l.length ≤ 1048576) (d : Nat) : ∀ (k i : Nat), i ≤ l.length → l.length - i = d → d < k → spec_l5Refs.l0 k l N (i : Int) = some (!((l.drop i).any (offP (-1) N))) := by
  induction d with
  | zero =>
    intro k i hi hd hk
    obtain ⟨k, rfl⟩ : ∃ m, k = m + 1 := ⟨k - 1, by omega⟩
    simp only [spec_l5Refs.l0]
    rw [if_neg (by omega), List.drop_eq_nil_of_le (by omega)]
    rfl
  | succ d ih =>
    intro k i hi hd hk
    obtain ⟨k, rfl⟩ : ∃ m, k = m + 1 := ⟨k - 1, by omega⟩
    simp only [spec_l5Refs.l0]
    rw [if_pos (by omega), if_pos (by omega), wnext i (by omega), rd_at l i (by omega), List.drop_eq_getElem_cons (by omega : i < l.length), List.any_cons]
    by_cases h : l[i] < -1
    · rw [if_pos h, offP, decide_eq_true h]
      rfl
    · rw [if_neg h]
      by_cases h2 : l[i] ≥ N
      · rw [if_pos h2, offP, decide_eq_true (show N ≤ l[i] from h2)]
        simp
      · rw [if_neg h2, ih k (i + 1) (by omega) (by omega) (by omega), offP, decide_eq_false h, decide_eq_false (show ¬ N ≤ l[i] from h2)]
        simp
theorem refs_eq (l : List Int) (N : Int) (hl : l.length ≤ 1048576) (k : Nat) (hk : l.length < k) : spec_l5Refs.f k l N = some (!(l.any (offP (-1) N))) :=
  refs_go l N hl l.length k 0 (by omega) (by omega) hk
theorem spec_nodes (g0 : List S50) (g1 : List (List Int)) (g2 : List Int) (hl : g0.length ≤ 1048576) (d : Nat) : ∀ (k i : Nat), 10 < k → i ≤ g0.length → g0.length - i = d →
    spec_GraphOk.l0 (k + d + 1) (i : Int) g0 g1 g2 = if (g0.drop i).any (nodeBad (g0.length : Int)) = true then some false else spec_GraphOk.l1 k 0 g0 g1 g2 := by
  induction d with
  | zero =>
    intro k i hk hi hd
    simp only [Nat.add_zero, spec_GraphOk.l0]
    rw [if_neg (by omega), List.drop_eq_nil_of_le (by omega), if_neg (by simp)]
  | succ d ih =>
    intro k i hk hi hd
    obtain ⟨q, hq⟩ : ∃ q, k + d + 1 = q := ⟨_, rfl⟩
    rw [show k + (d + 1) + 1 = q + 1 by omega]
    have hn := ih k (i + 1) hk (by omega) (by omega)
    rw [hq] at hn
    simp only [spec_GraphOk.l0]
    rw [if_pos (by omega), if_pos (by omega), wnext i (by omega), T50_at g0 i (by omega), List.drop_eq_getElem_cons (by omega : i < g0.length), List.any_cons, hn]
    by_cases h1 : ((g0[i].f0.length : Nat) : Int) > 4
    · rw [if_pos h1, nodeBad, decide_eq_true (by omega), if_pos (by simp)]
    · rw [if_neg h1]
      by_cases h2 : ((g0[i].f1.length : Nat) : Int) > 4
      · rw [if_pos h2, nodeBad, decide_eq_true (by omega : 4 < g0[i].f1.length), if_pos (by simp)]
      · rw [if_neg h2, refs_eq _ _ (by omega) _ (by omega), nodeBad, decide_eq_false (by omega : ¬ 4 < g0[i].f0.length), decide_eq_false (by omega : ¬ 4 < g0[i].f1.length)]
        simp only [Option.bind_some, Bool.false_or]
        cases g0[i].f0.any (offP (-1) (g0.length : Int)) with
        | true => simp
        | false => simp
theorem impl_nodes (g0 : List S50) (g1 : List (List Int)) (g2 : List Int) (hl : g0.length ≤ 1048576) (d : Nat) : ∀ (k i : Nat), i ≤ g0.length → g0.length - i = d →
    impl_GraphOk.l0 (k + d + 1) g0 (g0.length : Int) (i : Int) g0 g1 g2 = if (g0.drop i).any (nodeBad (g0.length : Int)) = true then some false else impl_GraphOk.l1 k g1 (g1.length : Int) 0 g0 g1 g2 := by
  induction d with
  | zero =>
    intro k i hi hd
    simp only [Nat.add_zero, impl_GraphOk.l0]
    rw [if_neg (by omega), List.drop_eq_nil_of_le (by omega), if_neg (by simp)]
  | succ d ih =>
    intro k i hi hd
    obtain ⟨q, hq⟩ : ∃ q, k + d + 1 = q := ⟨_, rfl⟩
    rw [show k + (d + 1) + 1 = q + 1 by omega]
    have hn := ih k (i + 1) (by omega) (by omega)
    rw [hq] at hn
    simp only [impl_GraphOk.l0]
    rw [if_pos (by omega), if_pos (by omega), if_pos (by omega), wnext i (by omega), T50_at g0 i (by omega), List.drop_eq_getElem_cons (by omega : i < g0.length), List.any_cons, hn]
    by_cases h1 : ((g0[i].f0.length : Nat) : Int) > 4
    · rw [if_pos h1, nodeBad, decide_eq_true (by omega), if_pos (by simp)]
    · rw [if_neg h1]
      by_cases h2 : ((g0[i].f1.length : Nat) : Int) > 4
      · rw [if_pos h2, nodeBad, decide_eq_true (by omega : 4 < g0[i].f1.length), if_pos (by simp)]
      · rw [if_neg h2, impl_Graph_leads.f, nodeBad, decide_eq_false (by omega : ¬ 4 < g0[i].f0.length), decide_eq_false (by omega : ¬ 4 < g0[i].f1.length)]
        simp only [Option.bind_some, Bool.false_or]
        cases g0[i].f0.any (offP (-1) (g0.length : Int)) with
        | true => simp
        | false => simp
theorem spec_roots (g0 : List S50) (g1 : List (List Int)) (g2 : List Int) (hl : g1.length ≤ 1048576) (d : Nat) : ∀ (k i : Nat), 10 < k → i ≤ g1.length → g1.length - i = d →
    spec_GraphOk.l1 (k + d + 1) (i : Int) g0 g1 g2 = if (g1.drop i).any (rootBad (g0.length : Int)) = true then some false else spec_GraphOk.l2 k 0 g0 g1 g2 := by
  induction d with
  | zero =>
    intro k i hk hi hd
    simp only [Nat.add_zero, spec_GraphOk.l1]
    rw [if_neg (by omega), List.drop_eq_nil_of_le (by omega), if_neg (by simp)]
  | succ d ih =>
    intro k i hk hi hd
    obtain ⟨q, hq⟩ : ∃ q, k + d + 1 = q := ⟨_, rfl⟩
    rw [show k + (d + 1) + 1 = q + 1 by omega]
    have hn := ih k (i + 1) hk (by omega) (by omega)
    rw [hq] at hn
    simp only [spec_GraphOk.l1]
    rw [if_pos (by omega), if_pos (by omega), wnext i (by omega), L1_at g1 i (by omega), List.drop_eq_getElem_cons (by omega : i < g1.length), List.any_cons, hn]
    by_cases h1 : ((g1[i].length : Nat) : Int) > 8
    · rw [if_pos h1, rootBad, decide_eq_true (by omega), if_pos (by simp)]
    · rw [if_neg h1, refs_eq _ _ (by omega) _ (by omega), rootBad, decide_eq_false (by omega : ¬ 8 < g1[i].length)]
      simp only [Option.bind_some, Bool.false_or]
      cases g1[i].any (offP (-1) (g0.length : Int)) with
      | true => simp
      | false => simp
theorem impl_roots (g0 : List S50) (g1 : List (List Int)) (g2 : List Int) (hl : g1.length ≤ 1048576) (d : Nat) : ∀ (k i : Nat), i ≤ g1.length → g1.length - i = d →
    impl_GraphOk.l1 (k + d + 1) g1 (g1.length : Int) (i : Int) g0 g1 g2 = some (!((g1.drop i).any (rootBad (g0.length : Int)))) := by
  induction d with
  | zero =>
    intro k i hi hd
    simp only [Nat.add_zero, impl_GraphOk.l1]
    rw [if_neg (by omega), List.drop_eq_nil_of_le (by omega)]
    rfl
  | succ d ih =>
    intro k i hi hd
    obtain ⟨q, hq⟩ : ∃ q, k + d + 1 = q := ⟨_, rfl⟩
    rw [show k + (d + 1) + 1 = q + 1 by omega]
    have hn := ih k (i + 1) (by omega) (by omega)
    rw [hq] at hn
    simp only [impl_GraphOk.l1]
    rw [if_pos (by omega), if_pos (by omega), if_pos (by omega), wnext i (by omega), L1_at g1 i (by omega), List.drop_eq_getElem_cons (by omega : i < g1.length), List.any_cons, hn]
    by_cases h1 : ((g1[i].length : Nat) : Int) > 8
    · rw [if_pos h1, rootBad, decide_eq_true (by omega)]
      simp
    · rw [if_neg h1, impl_Graph_leads.f, rootBad, decide_eq_false (by omega : ¬ 8 < g1[i].length)]
      simp only [Option.bind_some, Bool.false_or]
      cases g1[i].any (offP (-1) (g0.length : Int)) with
      | true => simp
      | false => simp
theorem spec_pins (g0 : List S50) (g1 : List (List Int)) (g2 : List Int) (hl : g2.length ≤ 1048576) (d : Nat) : ∀ (k i : Nat), 10 < k → i ≤ g2.length → g2.length - i = d →
    spec_GraphOk.l2 (k + d + 1) (i : Int) g0 g1 g2 = if (g2.drop i).any (fun n => decide (n < 0)) = true then some false else some (decide (g2.length ≤ 8) && !(g2.any (offP (-1) (g0.length : Int)))) := by
  induction d with
  | zero =>
    intro k i hk hi hd
    simp only [Nat.add_zero, spec_GraphOk.l2]
    rw [if_neg (by omega), List.drop_eq_nil_of_le (by omega)]
    by_cases h : (g2.length : Int) ≤ 8
    · rw [if_pos h, refs_eq _ _ (by omega) _ (by omega), decide_eq_true (by omega : g2.length ≤ 8)]
      simp
    · rw [if_neg h, decide_eq_false (by omega : ¬ g2.length ≤ 8)]
      simp
  | succ d ih =>
    intro k i hk hi hd
    obtain ⟨q, hq⟩ : ∃ q, k + d + 1 = q := ⟨_, rfl⟩
    rw [show k + (d + 1) + 1 = q + 1 by omega]
    have hn := ih k (i + 1) hk (by omega) (by omega)
    rw [hq] at hn
    simp only [spec_GraphOk.l2]
    rw [if_pos (by omega), if_pos (by omega), wnext i (by omega), rd_at g2 i (by omega), List.drop_eq_getElem_cons (by omega : i < g2.length), List.any_cons, hn]
    by_cases h1 : g2[i] < 0
    · rw [if_pos h1, decide_eq_true h1, if_pos (by simp)]
    · rw [if_neg h1, decide_eq_false h1, Bool.false_or]
theorem pins_off (N : Int) : ∀ l : List Int, l.any (offP 0 N) = (l.any (fun n => decide (n < 0)) || l.any (offP (-1) N))
  | [] => rfl
  | x :: r => by
    rw [List.any_cons, List.any_cons, List.any_cons, pins_off N r]
    by_cases h : x < 0
    · rw [offP, decide_eq_true h]
      simp
    · rw [offP, offP, decide_eq_false h, decide_eq_false (by omega : ¬ x < -1)]
      cases decide (N ≤ x) <;> cases r.any (fun n => decide (n < 0)) <;> simp
def gOkB (g0 : List S50) (g1 : List (List Int)) (g2 : List Int) : Bool := decide (g0.length ≤ 200 ∧ 1 ≤ g1.length ∧ g1.length ≤ 3) && (!(g0.any (nodeBad (g0.length : Int))) && (!(g1.any (rootBad (g0.length : Int))) && (decide (g2.length ≤ 8) && !(g2.any (offP 0 (g0.length : Int))))))
theorem graph_spec (g0 : List S50) (g1 : List (List Int)) (g2 : List Int) (h0 : g0.length ≤ 1048576) (h1 : g1.length ≤ 1048576) (h2 : g2.length ≤ 1048576) (K : Nat) (hK : 3145800 < K) : spec_GraphOk.f K g0 g1 g2 = some (gOkB g0 g1 g2) := by
  have bad : spec_GraphOk.j0 K true g0 g1 g2 = some false := by
    obtain ⟨K, rfl⟩ : ∃ m, K = m + 1 := ⟨K - 1, by omega⟩
    simp [spec_GraphOk.j0]
  unfold spec_GraphOk.f gOkB
  by_cases c1 : (g0.length : Int) > 200
  · rw [if_pos c1, bad, decide_eq_false (by omega)]
    rfl
  by_cases c2 : (g1.length : Int) < 1
  · rw [if_neg c1, if_pos c2, bad, decide_eq_false (by omega)]
    rfl
  rw [if_neg c1, if_neg c2]
  by_cases c3 : (g1.length : Int) > 3
  · rw [decide_eq_true c3, bad, decide_eq_false (by omega)]
    rfl
  rw [decide_eq_false c3, decide_eq_true (by omega)]
  obtain ⟨K, rfl⟩ : ∃ m, K = ((m + g2.length + 1) + g1.length + 1) + g0.length + 1 + 1 := ⟨K - 4 - g2.length - g1.length - g0.length, by omega⟩
  simp only [spec_GraphOk.j0, Bool.false_eq_true, if_false]
  have s0 := spec_nodes g0 g1 g2 h0 g0.length ((K + g2.length + 1) + g1.length + 1) 0 (by omega) (by omega) (by omega)
  have s1 := spec_roots g0 g1 g2 h1 g1.length (K + g2.length + 1) 0 (by omega) (by omega) (by omega)
  have s2 := spec_pins g0 g1 g2 h2 g2.length K 0 (by omega) (by omega) (by omega)
  rw [List.drop_zero] at s0 s1 s2
  have z : ((0 : Nat) : Int) = 0 := rfl
  rw [z] at s0 s1 s2
  rw [s0, s1, s2, pins_off]
  cases g0.any (nodeBad (g0.length : Int)) <;> cases g1.any (rootBad (g0.length : Int)) <;> cases g2.any (fun n => decide (n < 0)) <;> simp
theorem graph_impl (g0 : List S50) (g1 : List (List Int)) (g2 : List Int) (h0 : g0.length ≤ 1048576) (h1 : g1.length ≤ 1048576) (K : Nat) (hK : 3145800 < K) : impl_GraphOk.f K g0 g1 g2 = some (gOkB g0 g1 g2) := by
  have bad : impl_GraphOk.j0 K true g0 g1 g2 = some false := by
    obtain ⟨K, rfl⟩ : ∃ m, K = m + 1 := ⟨K - 1, by omega⟩
    simp [impl_GraphOk.j0]
  unfold impl_GraphOk.f gOkB
  by_cases c1 : (g0.length : Int) > 200
  · rw [if_pos c1, bad, decide_eq_false (by omega)]
    rfl
  by_cases c2 : (g1.length : Int) < 1
  · rw [if_neg c1, if_pos c2, bad, decide_eq_false (by omega)]
    rfl
  by_cases c3 : (g1.length : Int) > 3
  · rw [if_neg c1, if_neg c2, if_pos c3, bad, decide_eq_false (by omega)]
    rfl
  rw [if_neg c1, if_neg c2, if_neg c3, decide_eq_true (by omega)]
  by_cases c4 : (g2.length : Int) > 8
  · rw [if_pos c4, bad, decide_eq_false (by omega)]
    simp
  rw [if_neg c4, decide_eq_true (by omega), impl_Graph_leads.f]
  simp only [Option.bind_some]
  cases hp : g2.any (offP 0 (g0.length : Int)) with
  | true =>
    rw [show (!!true) = true from rfl, bad]
    simp
  | false =>
    obtain ⟨K, rfl⟩ : ∃ m, K = (m + g1.length + 1) + g0.length + 1 + 1 := ⟨K - 3 - g1.length - g0.length, by omega⟩
    simp only [impl_GraphOk.j0, Bool.not_false, Bool.not_true, Bool.false_eq_true, if_false]
    have s0 := impl_nodes g0 g1 g2 h0 g0.length (K + g1.length + 1) 0 (by omega) (by omega)
    have s1 := impl_roots g0 g1 g2 h1 g1.length K 0 (by omega) (by omega)
    rw [List.drop_zero] at s0 s1
    have z : ((0 : Nat) : Int) = 0 := rfl
    rw [z] at s0 s1
    rw [s0, s1]
    cases g0.any (nodeBad (g0.length : Int)) <;> simp

theorem markIntSS_some (d : Nat) : ∀ (k i : Nat) (l : List (List Int)) (n : Int), l.length ≤ 1048576 → (∀ x ∈ l, x.length ≤ 1048576) → i ≤ l.length → l.length - i = d → d + 1048577 < k → 0 ≤ n → n + (d : Int) * 2097152 ≤ 1000000000000000 → ∃ m l', laws_markIntSS.l0 k l n (i : Int) = some (m, l') ∧ n ≤ m ∧ m ≤ n + (d : Int) * 2097152 := by
  induction d with
  | zero =>
    intro k i l n h1 h2 hi hd hk h0 hn
    obtain ⟨k, rfl⟩ : ∃ m, k = m + 1 := ⟨k - 1, by omega⟩
    simp only [laws_markIntSS.l0]
    rw [if_neg (by omega)]
    exact ⟨n, l, rfl, by omega, by omega⟩
  | succ d ih =>
    intro k i l n h1 h2 hi hd hk h0 hn
    obtain ⟨k, rfl⟩ : ∃ m, k = m + 1 := ⟨k - 1, by omega⟩
    simp only [laws_markIntSS.l0]
    have hl := h2 l[i] (List.getElem_mem _)
    rw [if_pos (by omega), if_pos (by omega), L1_at l i (by omega), laws_markIntS_eq l[i] n ⟨h0, by omega⟩ hl k (by omega)]
    simp only [Option.bind_some]
    rw [wnext i (by omega), Int.toNat_natCast]
    obtain ⟨m, l', e, e1, e2⟩ := ih k (i + 1) (l.set i (laws_markIntS_list l[i] n)) (n + (l[i].length : Int)) (by simpa using h1) (by
      intro x hx
      rcases List.mem_or_eq_of_mem_set hx with hx | rfl
      · exact h2 x hx
      · rw [laws_markIntS_list_length]; exact hl) (by simpa using by omega) (by simpa using by omega) (by omega) (by omega) (by omega)
    exact ⟨m, l', e, by omega, by omega⟩
theorem markNodeS_some (d : Nat) : ∀ (k i : Nat) (l : List S50) (n : Int), l.length ≤ 1048576 → (∀ x ∈ l, x.f0.length ≤ 1048576 ∧ x.f1.length ≤ 1048576) → i ≤ l.length → l.length - i = d → d + 1048577 < k → 0 ≤ n → n + (d : Int) * 2097152 ≤ 1000000000000000 → ∃ m l', laws_markNodeS.l0 k l n (i : Int) = some (m, l') ∧ n ≤ m ∧ m ≤ n + (d : Int) * 2097152 := by
  induction d with
  | zero =>
    intro k i l n h1 h2 hi hd hk h0 hn
    obtain ⟨k, rfl⟩ : ∃ m, k = m + 1 := ⟨k - 1, by omega⟩
    simp only [laws_markNodeS.l0]
    rw [if_neg (by omega)]
    exact ⟨n, l, rfl, by omega, by omega⟩
  | succ d ih =>
    intro k i l n h1 h2 hi hd hk h0 hn
    obtain ⟨k, rfl⟩ : ∃ m, k = m + 1 := ⟨k - 1, by omega⟩
    simp only [laws_markNodeS.l0]
    have hl := h2 l[i] (List.getElem_mem _)
    rw [if_pos (by omega), if_pos (by omega), T50_at l i (by omega), laws_markIntS_eq l[i].f0 n ⟨h0, by omega⟩ hl.1 k (by omega)]
    simp only [Option.bind_some]
    rw [laws_markIntS_eq l[i].f1 (n + (l[i].f0.length : Int)) ⟨by omega, by omega⟩ hl.2 k (by omega)]
    simp only [Option.bind_some]
    rw [wnext i (by omega), Int.toNat_natCast]
    obtain ⟨m, l', e, e1, e2⟩ := ih k (i + 1) (l.set i ⟨laws_markIntS_list l[i].f0 n, laws_markIntS_list l[i].f1 (n + (l[i].f0.length : Int))⟩) (n + (l[i].f0.length : Int) + (l[i].f1.length : Int)) (by simpa using h1) (by
      intro x hx
      rcases List.mem_or_eq_of_mem_set hx with hx | rfl
      · exact h2 x hx
      · exact ⟨by rw [laws_markIntS_list_length]; exact hl.1, by rw [laws_markIntS_list_length]; exact hl.2⟩) (by simpa using by omega) (by simpa using by omega) (by omega) (by omega) (by omega)
    exact ⟨m, l', e, by omega, by omega⟩
theorem markGraph_some (l0 : List S72) (l1 : List (List Int)) (l2 : List Int) (h : BigG l0 l1 l2) (k : Nat) (hk : 2097153 < k) : ∃ m, laws_markGraph.f k (l0.map cvN) l1 l2 1 = some m ∧ ¬ m < 0 := by
  have h0 := h.n0
  have h1 := h.r0
  obtain ⟨m1, r1, e1, a1, b1⟩ := markNodeS_some l0.length k 0 (l0.map cvN) 1 (by simpa using h0) (by intro x hx; obtain ⟨y, hy, rfl⟩ := List.mem_map.1 hx; exact h.n1 y hy) (by simp) (by simp) (by omega) (by omega) (by omega)
  obtain ⟨m2, r2, e2, a2, b2⟩ := markIntSS_some l1.length k 0 l1 m1 h1 h.r1 (by omega) (by omega) (by omega) (by omega) (by omega)
  have e3 := laws_markIntS_eq l2 m2 ⟨by omega, by omega⟩ h.p0 k (by omega)
  have e1' : laws_markNodeS.f k (l0.map cvN) 1 = some (m1, r1) := e1
  have e2' : laws_markIntSS.f k l1 m1 = some (m2, r2) := e2
  refine ⟨m2 + (l2.length : Int), ?_, by omega⟩
  unfold laws_markGraph.f
  rw [e1']
  simp only [Option.bind_some]
  rw [e2']
  simp only [Option.bind_some]
  rw [e3]
  rfl

def meetStep (s : List Bool × List Int) (n : Int) : List Bool × List Int := if 0 ≤ n ∧ rdOf false s.1 n = false then (s.1.set n.toNat true, s.2 ++ [n]) else s
def metRoots (l1 : List (List Int)) (s : List Bool × List Int) : List Bool × List Int := l1.foldl (fun s r => r.foldl meetStep s) s
def metLoop (l0 : List S50) : Nat → Int → List Bool × List Int → Option (List Int)
  | 0, _, _ => none
  | k + 1, i, s => if i < (s.2.length : Int) then (if 0 ≤ rd s.2 i ∧ rd s.2 i < (l0.length : Int) ∧ s.2.length ≤ 1000 then metLoop l0 k (wrap64 (i + 1)) ((rd_T50 l0 (rd s.2 i)).f0.foldl meetStep s) else none) else some s.2
structure GOk (g0 : List S50) (g1 : List (List Int)) (g2 : List Int) : Prop where
  n0 : g0.length ≤ 200
  e1 : ∀ x ∈ g0, x.f0.length ≤ 4 ∧ ∀ n ∈ x.f0, n < (g0.length : Int)
  r0 : g1.length ≤ 3
  r1 : ∀ x ∈ g1, x.length ≤ 8 ∧ ∀ n ∈ x, n < (g0.length : Int)
  p0 : g2.length ≤ 8
  p1 : ∀ n ∈ g2, 0 ≤ n ∧ n < (g0.length : Int)
theorem off_no {low N : Int} {l : List Int} (h : l.any (offP low N) = false) : ∀ n ∈ l, low ≤ n ∧ n < N := by
  intro n hn
  rw [List.any_eq_false] at h
  have := h n hn
  simp only [offP, Bool.or_eq_true, decide_eq_true_eq, not_or] at this
  omega
theorem g_ok {g0 : List S50} {g1 : List (List Int)} {g2 : List Int} (h : gOkB g0 g1 g2 = true) : GOk g0 g1 g2 := by
  simp only [gOkB, Bool.and_eq_true, decide_eq_true_eq, Bool.not_eq_true'] at h
  obtain ⟨⟨h0, h1, h2⟩, h3, h4, h5, h6⟩ := h
  rw [List.any_eq_false] at h3 h4
  refine ⟨h0, fun x hx => ?_, h2, fun x hx => ?_, h5, fun n hn => by have := off_no h6 n hn; omega⟩
  · have := h3 x hx
    simp only [nodeBad, Bool.or_eq_true, decide_eq_true_eq, not_or, Bool.not_eq_true] at this
    exact ⟨by omega, fun n hn => (off_no this.2.2 n hn).2⟩
  · have := h4 x hx
    simp only [rootBad, Bool.or_eq_true, decide_eq_true_eq, not_or, Bool.not_eq_true] at this
    exact ⟨by omega, fun n hn => (off_no this.2 n hn).2⟩
def cnt : List Bool → Nat
  | [] => 0
  | b :: r => (if b = true then 1 else 0) + cnt r
theorem cnt_le : ∀ l : List Bool, cnt l ≤ l.length
  | [] => Nat.le_refl _
  | b :: r => by
    have := cnt_le r
    simp only [cnt, List.length_cons]
    split <;> omega
theorem cnt_set : ∀ (l : List Bool) (n : Nat), n < l.length → l.getD n false = false → cnt (l.set n true) = cnt l + 1
  | [], n, h, _ => by simp at h
  | b :: r, 0, _, h => by
    simp at h
    subst h
    simp [cnt]
    omega
  | b :: r, n + 1, h, h2 => by
    have := cnt_set r n (by simpa using h) (by simpa using h2)
    simp only [List.set_cons_succ, cnt, this]
    omega
structure SOk (N : Nat) (s : List Bool × List Int) : Prop where
  len : s.1.length = N
  cn : s.2.length ≤ cnt s.1
  all : ∀ x ∈ s.2, 0 ≤ x ∧ x < (N : Int)
theorem SOk.short {N : Nat} {s : List Bool × List Int} (h : SOk N s) : s.2.length ≤ N := by
  have := cnt_le s.1
  have := h.len
  have := h.cn
  omega
theorem step_ok {N : Nat} {s : List Bool × List Int} (h : SOk N s) (n : Int) (hn : n < (N : Int)) : SOk N (meetStep s n) := by
  unfold meetStep
  split
  · rename_i hc
    obtain ⟨h0, h1⟩ := hc
    refine ⟨by simpa using h.len, ?_, ?_⟩
    · have hl := h.len
      have e := cnt_set s.1 n.toNat (by omega) h1
      have := h.cn
      simp only [List.length_append, List.length_cons, List.length_nil]
      omega
    · intro x hx
      rcases List.mem_append.1 hx with hx | hx
      · exact h.all x hx
      · rw [List.mem_singleton.1 hx]
        exact ⟨h0, hn⟩
  · exact h
theorem fold_ok {N : Nat} (l : List Int) (hl : ∀ n ∈ l, n < (N : Int)) : ∀ s, SOk N s → SOk N (l.foldl meetStep s) := by
  induction l with
  | nil => exact fun s h => h
  | cons n r ih => exact fun s h => ih (fun q hq => hl q (List.mem_cons_of_mem _ hq)) _ (step_ok h n (hl n List.mem_cons_self))
theorem roots_ok {N : Nat} (l : List (List Int)) (hl : ∀ r ∈ l, ∀ n ∈ r, n < (N : Int)) : ∀ s, SOk N s → SOk N (metRoots l s) := by
  induction l with
  | nil => exact fun s h => h
  | cons r t ih => exact fun s h => ih (fun q hq => hl q (List.mem_cons_of_mem _ hq)) _ (fold_ok r (hl r List.mem_cons_self) s h)
theorem rdI_mem (l : List Int) (i : Int) (h0 : 0 ≤ i) (h1 : i < (l.length : Int)) : rd l i ∈ l := by
  have h : i.toNat < l.length := by omega
  have e : rd l i = l[i.toNat] := by simp [rd, List.getD, h]
  rw [e]
  exact List.getElem_mem h
theorem node_mem (l : List S50) (i : Int) (h0 : 0 ≤ i) (h1 : i < (l.length : Int)) : rd_T50 l i ∈ l := by
  have h : i.toNat < l.length := by omega
  have e : rd_T50 l i = l[i.toNat] := by simp [rd_T50, List.getD, h]
  rw [e]
  exact List.getElem_mem h
theorem loop_some {g0 : List S50} {g1 : List (List Int)} {g2 : List Int} (hg : GOk g0 g1 g2) (d : Nat) : ∀ (i : Nat) (s : List Bool × List Int), SOk g0.length s → g0.length ≤ i + d → ∃ r, metLoop g0 (d + 1) (i : Int) s = some r ∧ r.length ≤ g0.length ∧ ∀ x ∈ r, 0 ≤ x ∧ x < (g0.length : Int) := by
  induction d with
  | zero =>
    intro i s hs hd
    have := hs.short
    simp only [metLoop]
    rw [if_neg (by omega)]
    exact ⟨_, rfl, hs.short, hs.all⟩
  | succ d ih =>
    intro i s hs hd
    have hsh := hs.short
    have hn0 := hg.n0
    obtain ⟨q, hq⟩ : ∃ q, d + 1 = q := ⟨_, rfl⟩
    rw [hq]
    simp only [metLoop]
    by_cases c : (i : Int) < (s.2.length : Int)
    · have hm := hs.all _ (rdI_mem s.2 (i : Int) (by omega) c)
      rw [if_pos c, if_pos ⟨hm.1, hm.2, by omega⟩, wnext i (by omega), ← hq]
      exact ih (i + 1) _ (fold_ok _ (hg.e1 _ (node_mem g0 _ hm.1 hm.2)).2 _ hs) (by omega)
    · rw [if_neg c]
      exact ⟨_, rfl, hs.short, hs.all⟩
theorem row_go (g0 : List S50) (g1 : List (List Int)) (g2 : List Int) (i : Nat) (hi : i < g1.length) (hr : g1[i].length ≤ 8) (hn : ∀ n ∈ g1[i], n < (g0.length : Int)) (hN : g0.length ≤ 200) (d : Nat) : ∀ (K j : Nat) (s : List Bool × List Int), SOk g0.length s → j ≤ g1[i].length → g1[i].length - j = d → d < K →
    ∃ K', K ≤ K' + d + 1 ∧ spec_l5Order.l1 K s.2 s.1 (i : Int) (j : Int) g0 g1 g2 = spec_l5Order.l0 K' ((g1[i].drop j).foldl meetStep s).2 ((g1[i].drop j).foldl meetStep s).1 (wrap64 ((i : Int) + 1)) g0 g1 g2 := by
  induction d with
  | zero =>
    intro K j s hs hj hd hK
    obtain ⟨K, rfl⟩ : ∃ m, K = m + 1 := ⟨K - 1, by omega⟩
    refine ⟨K, by omega, ?_⟩
    simp only [spec_l5Order.l1]
    rw [if_pos (by omega), if_pos (by omega), L1_at g1 i hi, if_neg (by omega), List.drop_eq_nil_of_le (by omega)]
    rfl
  | succ d ih =>
    intro K j s hs hj hd hK
    obtain ⟨K, rfl⟩ : ∃ m, K = m + 1 := ⟨K - 1, by omega⟩
    have hjl : j < g1[i].length := by omega
    have hx := hn _ (List.getElem_mem hjl)
    have hs2 := step_ok hs _ hx
    obtain ⟨K', h1, h2⟩ := ih K (j + 1) (meetStep s g1[i][j]) hs2 (by omega) (by omega) (by omega)
    refine ⟨K', by omega, ?_⟩
    simp only [spec_l5Order.l1]
    rw [if_pos (by omega), if_pos (by omega), L1_at g1 i hi, if_pos (by omega), if_pos (by omega), wnext j (by omega), rd_at _ j hjl, List.drop_eq_getElem_cons hjl, List.foldl_cons, ← h2]
    have hsh := hs.short
    have hl := hs.len
    generalize g1[i][j] = x at hx ⊢
    by_cases c : x ≥ 0
    · rw [if_pos c, if_pos c, if_pos (by omega)]
      by_cases c2 : rdOf false s.1 x = true
      · rw [if_pos c2, meetStep, if_neg (fun h => by rw [c2] at h; exact Bool.noConfusion h.2)]
      · rw [if_neg c2, if_pos (by omega), meetStep, if_pos ⟨c, Bool.eq_false_iff.2 c2⟩]
    · rw [if_neg c, meetStep, if_neg (fun h => c h.1)]
theorem roots_go (g0 : List S50) (g1 : List (List Int)) (g2 : List Int) (hg : GOk g0 g1 g2) (d : Nat) : ∀ (K i : Nat) (s : List Bool × List Int), SOk g0.length s → i ≤ g1.length → g1.length - i = d → 12 * d + 2 < K →
    ∃ K', K ≤ K' + 12 * d + 1 ∧ spec_l5Order.l0 K s.2 s.1 (i : Int) g0 g1 g2 = spec_l5Order.l2 K' (metRoots (g1.drop i) s).2 (metRoots (g1.drop i) s).1 0 g0 g1 g2 := by
  induction d with
  | zero =>
    intro K i s hs hi hd hK
    obtain ⟨K, rfl⟩ : ∃ m, K = m + 1 := ⟨K - 1, by omega⟩
    refine ⟨K, by omega, ?_⟩
    simp only [spec_l5Order.l0]
    rw [if_neg (by omega), List.drop_eq_nil_of_le (by omega)]
    rfl
  | succ d ih =>
    intro K i s hs hi hd hK
    obtain ⟨K, rfl⟩ : ∃ m, K = m + 1 := ⟨K - 1, by omega⟩
    have hil : i < g1.length := by omega
    have hr := hg.r1 _ (List.getElem_mem hil)
    have hr0 := hg.r0
    obtain ⟨K1, h1, h2⟩ := row_go g0 g1 g2 i hil hr.1 hr.2 hg.n0 g1[i].length K 0 s hs (by omega) (by omega) (by omega)
    obtain ⟨K2, h3, h4⟩ := ih K1 (i + 1) (g1[i].foldl meetStep s) (fold_ok _ hr.2 s hs) (by omega) (by omega) (by omega)
    refine ⟨K2, by omega, ?_⟩
    simp only [spec_l5Order.l0]
    rw [List.drop_zero] at h2
    have z : ((0 : Nat) : Int) = 0 := rfl
    rw [z, wnext i (by omega)] at h2
    rw [if_pos (by omega), h2, h4, List.drop_eq_getElem_cons hil]
    rfl
theorem pins_go (g0 : List S50) (g1 : List (List Int)) (g2 : List Int) (hg : GOk g0 g1 g2) (d : Nat) : ∀ (K j : Nat) (s : List Bool × List Int), SOk g0.length s → j ≤ g2.length → g2.length - j = d → d < K →
    ∃ K', K ≤ K' + d + 1 ∧ spec_l5Order.l2 K s.2 s.1 (j : Int) g0 g1 g2 = spec_l5Order.l3 K' ((g2.drop j).foldl meetStep s).2 ((g2.drop j).foldl meetStep s).1 0 g0 g1 g2 := by
  induction d with
  | zero =>
    intro K j s hs hj hd hK
    obtain ⟨K, rfl⟩ : ∃ m, K = m + 1 := ⟨K - 1, by omega⟩
    refine ⟨K, by omega, ?_⟩
    simp only [spec_l5Order.l2]
    rw [if_neg (by omega), List.drop_eq_nil_of_le (by omega)]
    rfl
  | succ d ih =>
    intro K j s hs hj hd hK
    obtain ⟨K, rfl⟩ : ∃ m, K = m + 1 := ⟨K - 1, by omega⟩
    have hjl : j < g2.length := by omega
    have hx := hg.p1 _ (List.getElem_mem hjl)
    have hp0 := hg.p0
    have hn0 := hg.n0
    obtain ⟨K', h1, h2⟩ := ih K (j + 1) (meetStep s g2[j]) (step_ok hs _ hx.2) (by omega) (by omega) (by omega)
    refine ⟨K', by omega, ?_⟩
    simp only [spec_l5Order.l2]
    rw [if_pos (by omega), if_pos (by omega), wnext j (by omega), rd_at _ j hjl, List.drop_eq_getElem_cons hjl, List.foldl_cons, ← h2]
    have hsh := hs.short
    have hl := hs.len
    generalize g2[j] = x at hx ⊢
    rw [if_pos hx.1, if_pos (by omega)]
    by_cases c2 : rdOf false s.1 x = true
    · rw [if_pos c2, meetStep, if_neg (fun h => by rw [c2] at h; exact Bool.noConfusion h.2)]
    · rw [if_neg c2, if_pos (by omega), meetStep, if_pos ⟨hx.1, Bool.eq_false_iff.2 c2⟩]
theorem refs_run (g0 : List S50) (g1 : List (List Int)) (g2 : List Int) (l : List Int) (p : Int) (hr : l.length ≤ 4) (hn : ∀ n ∈ l, n < (g0.length : Int)) (hN : g0.length ≤ 200) (d : Nat) : ∀ (K j : Nat) (s : List Bool × List Int), SOk g0.length s → j ≤ l.length → l.length - j = d → d < K →
    ∃ K', K ≤ K' + d + 1 ∧ spec_l5Order.l4 K s.2 s.1 p l (j : Int) g0 g1 g2 = spec_l5Order.l3 K' ((l.drop j).foldl meetStep s).2 ((l.drop j).foldl meetStep s).1 (wrap64 (p + 1)) g0 g1 g2 := by
  induction d with
  | zero =>
    intro K j s hs hj hd hK
    obtain ⟨K, rfl⟩ : ∃ m, K = m + 1 := ⟨K - 1, by omega⟩
    refine ⟨K, by omega, ?_⟩
    simp only [spec_l5Order.l4]
    rw [if_neg (by omega), List.drop_eq_nil_of_le (by omega)]
    rfl
  | succ d ih =>
    intro K j s hs hj hd hK
    obtain ⟨K, rfl⟩ : ∃ m, K = m + 1 := ⟨K - 1, by omega⟩
    have hjl : j < l.length := by omega
    have hx := hn _ (List.getElem_mem hjl)
    obtain ⟨K', h1, h2⟩ := ih K (j + 1) (meetStep s l[j]) (step_ok hs _ hx) (by omega) (by omega) (by omega)
    refine ⟨K', by omega, ?_⟩
    simp only [spec_l5Order.l4]
    rw [if_pos (by omega), if_pos (by omega), wnext j (by omega), rd_at _ j hjl, List.drop_eq_getElem_cons hjl, List.foldl_cons, ← h2]
    have hsh := hs.short
    have hl := hs.len
    generalize l[j] = x at hx ⊢
    by_cases c : x ≥ 0
    · rw [if_pos c, if_pos c, if_pos (by omega)]
      by_cases c2 : rdOf false s.1 x = true
      · rw [if_pos c2, meetStep, if_neg (fun h => by rw [c2] at h; exact Bool.noConfusion h.2)]
      · rw [if_neg c2, if_pos (by omega), meetStep, if_pos ⟨c, Bool.eq_false_iff.2 c2⟩]
    · rw [if_neg c, meetStep, if_neg (fun h => c h.1)]
theorem nodes_go (g0 : List S50) (g1 : List (List Int)) (g2 : List Int) (hg : GOk g0 g1 g2) (k : Nat) : ∀ (i : Int) (K : Nat) (s : List Bool × List Int) (r : List Int), 0 ≤ i → SOk g0.length s → metLoop g0 k i s = some r → 12 * k < K → spec_l5Order.l3 K s.2 s.1 i g0 g1 g2 = some r := by
  induction k with
  | zero =>
    intro i K s r hi hs h hK
    simp [metLoop] at h
  | succ k ih =>
    intro i K s r hi hs h hK
    obtain ⟨K, rfl⟩ : ∃ m, K = m + 1 := ⟨K - 1, by omega⟩
    simp only [metLoop] at h
    simp only [spec_l5Order.l3]
    have hsh := hs.short
    have hn0 := hg.n0
    by_cases c : i < (s.2.length : Int)
    · have hm := hs.all _ (rdI_mem s.2 i hi c)
      have hnd := hg.e1 _ (node_mem g0 _ hm.1 hm.2)
      rw [if_pos c, if_pos ⟨hm.1, hm.2, by omega⟩] at h
      rw [if_pos c, if_pos hi, if_pos hm.1, if_pos hm.2]
      obtain ⟨K', h1, h2⟩ := refs_run g0 g1 g2 _ i hnd.1 hnd.2 hn0 _ K 0 s hs (by omega) rfl (by omega)
      rw [List.drop_zero] at h2
      have z : ((0 : Nat) : Int) = 0 := rfl
      rw [z] at h2
      rw [h2]
      exact ih _ K' _ r (by rw [w64 (by omega) (by omega)]; omega) (fold_ok _ hnd.2 s hs) h (by omega)
    · rw [if_neg c] at h
      rw [if_neg c]
      exact h

def Rch (g0 : List S50) (L : List Int) (x : Int) : Prop := ∀ T : Int → Prop, (∀ n ∈ L, 0 ≤ n → T n) → (∀ m n : Int, T m → n ∈ (rd_T50 g0 m).f0 → 0 ≤ n → T n) → T x
theorem Rch.base {g0 : List S50} {L : List Int} {n : Int} (h : n ∈ L) (h0 : 0 ≤ n) : Rch g0 L n := fun T h1 h2 => h1 n h h0
theorem Rch.step {g0 : List S50} {L : List Int} {m n : Int} (hm : Rch g0 L m) (h : n ∈ (rd_T50 g0 m).f0) (h0 : 0 ≤ n) : Rch g0 L n := fun T h1 h2 => h2 m n (hm T h1 h2) h h0
theorem Rch.into {g0 : List S50} {L L' : List Int} {x : Int} (hx : Rch g0 L x) (h : ∀ y ∈ L, 0 ≤ y → Rch g0 L' y) : Rch g0 L' x := hx (Rch g0 L') h (fun m n hm hn h0 => Rch.step hm hn h0)
theorem Rch.more {g0 : List S50} {L : List Int} {x : Int} (n : Int) (hx : Rch g0 L x) : Rch g0 (n :: L) x := hx.into (fun y hy h0 => Rch.base (List.mem_cons_of_mem _ hy) h0)
theorem rch_one {g0 : List S50} {L : List Int} {x : Int} : Rch g0 L x ↔ ∃ n ∈ L, Rch g0 [n] x := by
  constructor
  · intro h
    refine h (fun x => ∃ n ∈ L, Rch g0 [n] x) (fun n hn h0 => ⟨n, hn, Rch.base List.mem_cons_self h0⟩) ?_
    rintro m n ⟨q, hq, hm⟩ hn h0
    exact ⟨q, hq, Rch.step hm hn h0⟩
  · rintro ⟨n, hn, h⟩
    refine h.into (fun y hy h0 => ?_)
    rw [List.mem_singleton.1 hy] at h0 ⊢
    exact Rch.base hn h0
def uns (S : List Int) : Nat → Nat
  | 0 => 0
  | i + 1 => uns S i + (if S.contains (i : Int) = true then 0 else 1)
theorem uns_le (S : List Int) : ∀ N, uns S N ≤ N
  | 0 => Nat.le_refl _
  | i + 1 => by
    have := uns_le S i
    simp only [uns]
    split <;> omega
theorem uns_cons (n : Int) (S : List Int) : ∀ N, uns (n :: S) N ≤ uns S N
  | 0 => Nat.le_refl _
  | i + 1 => by
    have h := uns_cons n S i
    simp only [uns]
    by_cases c : S.contains (i : Int) = true
    · have c2 : (n :: S).contains (i : Int) = true := by rw [List.contains_cons, c, Bool.or_true]
      rw [if_pos c, if_pos c2]
      omega
    · rw [if_neg c]
      split <;> omega
theorem uns_lt (n : Int) (S : List Int) (h : S.contains n = false) (h0 : 0 ≤ n) : ∀ N : Nat, n < (N : Int) → uns (n :: S) N + 1 ≤ uns S N
  | 0, h1 => by omega
  | i + 1, h1 => by
    simp only [uns]
    by_cases e : n = (i : Int)
    · have h2 := uns_cons n S i
      have c2 : (n :: S).contains (i : Int) = true := by rw [List.contains_cons, ← e, beq_self_eq_true, Bool.true_or]
      rw [if_pos c2, ← e, if_neg (by rw [h]; decide)]
      omega
    · have h2 := uns_lt n S h h0 i (by omega)
      have e2 : ((i : Int) == n) = false := beq_eq_false_iff_ne.mpr (fun q => e q.symm)
      have c2 : (n :: S).contains (i : Int) = S.contains (i : Int) := by rw [List.contains_cons, e2, Bool.false_or]
      rw [c2]
      omega
structure DP (g0 : List S50) (l S S' : List Int) : Prop where
  sub : ∀ x ∈ S, x ∈ S'
  has : ∀ x ∈ l, 0 ≤ x → x ∈ S'
  clo : ∀ x ∈ S', x ∈ S ∨ ∀ y ∈ (rd_T50 g0 x).f0, 0 ≤ y → y ∈ S'
  rch : ∀ x ∈ S', x ∈ S ∨ Rch g0 l x
  cn : S'.length + uns S' g0.length ≤ g0.length
  un : uns S' g0.length ≤ uns S g0.length
theorem dfsGo_ok (g0 : List S50) (hN : g0.length ≤ 200) (he : ∀ x ∈ g0, x.f0.length ≤ 4 ∧ ∀ n ∈ x.f0, n < (g0.length : Int)) (f : List Int → List Int → Option (List Int)) (U : Nat)
    (hf : ∀ l S : List Int, (∀ n ∈ l, n < (g0.length : Int)) → l.length ≤ 4 → S.length + uns S g0.length ≤ g0.length → uns S g0.length < U → ∃ S', f l S = some S' ∧ DP g0 l S S') :
    ∀ l S : List Int, (∀ n ∈ l, n < (g0.length : Int)) → S.length + uns S g0.length ≤ g0.length → uns S g0.length < U + 1 → ∃ S', dfsGo g0 f l S = some S' ∧ DP g0 l S S' := by
  intro l
  induction l with
  | nil => exact fun S _ hc hu => ⟨S, rfl, ⟨fun x hx => hx, fun x hx => by simp at hx, fun x hx => Or.inl hx, fun x hx => Or.inl hx, hc, Nat.le_refl _⟩⟩
  | cons n r ih =>
    intro S hl hc hu
    have hn := hl n List.mem_cons_self
    have hr : ∀ q ∈ r, q < (g0.length : Int) := fun q hq => hl q (List.mem_cons_of_mem _ hq)
    rw [dfsGo]
    by_cases h0 : 0 ≤ n
    · rw [if_pos h0, if_pos ⟨hn, by omega, by omega⟩]
      cases hs : S.contains n with
      | true =>
        rw [if_pos rfl]
        obtain ⟨S', e, d⟩ := ih S hr hc hu
        have hnS : n ∈ S := by simpa using hs
        refine ⟨S', e, d.sub, fun x hx hx0 => ?_, d.clo, fun x hx => (d.rch x hx).imp (fun h => h) (fun h => h.more n), d.cn, d.un⟩
        rcases List.mem_cons.1 hx with rfl | hx
        · exact d.sub _ hnS
        · exact d.has x hx hx0
      | false =>
        rw [if_neg (by decide)]
        have hlt := uns_lt n S hs h0 g0.length hn
        have hnd := he _ (node_mem g0 n h0 hn)
        obtain ⟨S1, e1, d1⟩ := hf (rd_T50 g0 n).f0 (n :: S) hnd.2 hnd.1 (by simp only [List.length_cons]; omega) (by omega)
        have hun := d1.un
        obtain ⟨S', e, d⟩ := ih S1 hr d1.cn (by omega)
        have hnS : n ∈ S' := d.sub n (d1.sub n List.mem_cons_self)
        have hbase : Rch g0 (n :: r) n := Rch.base List.mem_cons_self h0
        refine ⟨S', by rw [e1]; exact e, fun x hx => d.sub x (d1.sub x (List.mem_cons_of_mem _ hx)), fun x hx hx0 => ?_, fun x hx => ?_, fun x hx => ?_, d.cn, by have := d.un; omega⟩
        · rcases List.mem_cons.1 hx with rfl | hx
          · exact hnS
          · exact d.has x hx hx0
        · rcases d.clo x hx with h | h
          · rcases d1.clo x h with h | h
            · rcases List.mem_cons.1 h with rfl | h
              · exact Or.inr (fun y hy hy0 => d.sub y (d1.has y hy hy0))
              · exact Or.inl h
            · exact Or.inr (fun y hy hy0 => d.sub y (h y hy hy0))
          · exact Or.inr h
        · rcases d.rch x hx with h | h
          · rcases d1.rch x h with h | h
            · rcases List.mem_cons.1 h with rfl | h
              · exact Or.inr hbase
              · exact Or.inl h
            · exact Or.inr (h.into (fun y hy hy0 => Rch.step hbase hy hy0))
          · exact Or.inr (h.more n)
    · rw [if_neg h0]
      obtain ⟨S', e, d⟩ := ih S hr hc hu
      refine ⟨S', e, d.sub, fun x hx hx0 => ?_, d.clo, fun x hx => (d.rch x hx).imp (fun h => h) (fun h => h.more n), d.cn, d.un⟩
      rcases List.mem_cons.1 hx with rfl | hx
      · exact absurd hx0 h0
      · exact d.has x hx hx0
theorem dfs_ok (g0 : List S50) (hN : g0.length ≤ 200) (he : ∀ x ∈ g0, x.f0.length ≤ 4 ∧ ∀ n ∈ x.f0, n < (g0.length : Int)) (k : Nat) :
    ∀ l S : List Int, (∀ n ∈ l, n < (g0.length : Int)) → l.length ≤ 4 → S.length + uns S g0.length ≤ g0.length → uns S g0.length < k → ∃ S', dfs g0 k l S = some S' ∧ DP g0 l S S' := by
  induction k with
  | zero => exact fun l S _ _ _ h => by omega
  | succ k ih =>
    intro l S hl hl4 hc hu
    rw [dfs, if_pos (by omega)]
    exact dfsGo_ok g0 hN he (dfs g0 k) k ih l S hl hc hu
theorem dfs_rch (g0 : List S50) (hN : g0.length ≤ 200) (he : ∀ x ∈ g0, x.f0.length ≤ 4 ∧ ∀ n ∈ x.f0, n < (g0.length : Int)) (K : Nat) (hK : 1000 < K) (l : List Int) (hl : ∀ n ∈ l, n < (g0.length : Int)) (hl4 : l.length ≤ 4) :
    ∃ S, dfs g0 K l [] = some S ∧ ∀ x : Int, S.contains x = true ↔ Rch g0 l x := by
  have hu := uns_le [] g0.length
  obtain ⟨S, e, d⟩ := dfs_ok g0 hN he K l [] hl hl4 (by simpa using hu) (by omega)
  refine ⟨S, e, fun x => ?_⟩
  rw [List.contains_iff_mem]
  constructor
  · intro hx
    rcases d.rch x hx with h | h
    · simp at h
    · exact h
  · intro h
    refine h (fun x => x ∈ S) d.has (fun m n hm hn h0 => ?_)
    rcases d.clo m hm with h | h
    · simp at h
    · exact h n hn h0
theorem setb (l : List Bool) (x o : Int) (v : Bool) (h0 : 0 ≤ x) (h1 : x < (l.length : Int)) (ho : 0 ≤ o) : rdOf false (l.set x.toNat v) o = if o = x then v else rdOf false l o := by
  have hx : x.toNat < l.length := by omega
  by_cases h : o = x
  · subst h
    rw [if_pos rfl]
    simp [rdOf, hx]
  · rw [if_neg h]
    have : x.toNat ≠ o.toNat := by omega
    simp [rdOf, List.getElem?_set_ne this]
theorem rd_left (a b : List Int) (i : Nat) (h : i < a.length) : rd (a ++ b) (i : Int) = rd a (i : Int) := by
  simp [rd, List.getD, List.getElem?_append_left h]
theorem rep_no (N : Nat) (n : Int) : rdOf false (List.replicate N false) n = false := by
  simp only [rdOf, List.getD, List.getElem?_replicate]
  split <;> rfl
structure QOk (N : Nat) (s : List Bool × List Int) : Prop where
  ok : SOk N s
  mem : ∀ x : Int, 0 ≤ x → x < (N : Int) → (rdOf false s.1 x = true ↔ x ∈ s.2)
theorem step_q {N : Nat} {s : List Bool × List Int} (h : QOk N s) (n : Int) (hn : n < (N : Int)) :
    QOk N (meetStep s n) ∧ (∃ t, (meetStep s n).2 = s.2 ++ t ∧ ∀ x ∈ t, x = n ∧ 0 ≤ x) ∧ (0 ≤ n → n ∈ (meetStep s n).2) := by
  have h2 := step_ok h.ok n hn
  have hl := h.ok.len
  unfold meetStep at h2 ⊢
  by_cases hc : 0 ≤ n ∧ rdOf false s.1 n = false
  · rw [if_pos hc] at h2 ⊢
    refine ⟨⟨h2, fun x x0 x1 => ?_⟩, ⟨[n], rfl, fun x hx => ?_⟩, fun _ => by simp⟩
    · show rdOf false (s.1.set n.toNat true) x = true ↔ x ∈ s.2 ++ [n]
      rw [setb s.1 n x true hc.1 (by omega) x0]
      by_cases e : x = n
      · subst e
        simp
      · rw [if_neg e, h.mem x x0 x1]
        simp [e]
    · rw [List.mem_singleton.1 hx]
      exact ⟨rfl, hc.1⟩
  · rw [if_neg hc] at h2 ⊢
    refine ⟨h, ⟨[], by simp, fun x hx => by simp at hx⟩, fun n0 => (h.mem n n0 hn).1 ?_⟩
    cases hb : rdOf false s.1 n with
    | true => rfl
    | false => exact absurd ⟨n0, hb⟩ hc
theorem fold_q {N : Nat} (l : List Int) : (∀ n ∈ l, n < (N : Int)) → ∀ s : List Bool × List Int, QOk N s →
    QOk N (l.foldl meetStep s) ∧ (∃ t, (l.foldl meetStep s).2 = s.2 ++ t ∧ ∀ x ∈ t, x ∈ l ∧ 0 ≤ x) ∧ ∀ x ∈ l, 0 ≤ x → x ∈ (l.foldl meetStep s).2 := by
  induction l with
  | nil => exact fun _ s h => ⟨h, ⟨[], by simp, fun x hx => by simp at hx⟩, fun x hx => by simp at hx⟩
  | cons n r ih =>
    intro hl s h
    obtain ⟨q1, ⟨t1, e1, m1⟩, i1⟩ := step_q h n (hl n List.mem_cons_self)
    obtain ⟨q2, ⟨t2, e2, m2⟩, i2⟩ := ih (fun x hx => hl x (List.mem_cons_of_mem _ hx)) _ q1
    rw [List.foldl_cons]
    refine ⟨q2, ⟨t1 ++ t2, by rw [e2, e1, List.append_assoc], fun x hx => ?_⟩, fun x hx x0 => ?_⟩
    · rcases List.mem_append.1 hx with hx | hx
      · exact ⟨by rw [(m1 x hx).1]; exact List.mem_cons_self, (m1 x hx).2⟩
      · exact ⟨List.mem_cons_of_mem _ (m2 x hx).1, (m2 x hx).2⟩
    · rcases List.mem_cons.1 hx with rfl | hx
      · rw [e2]
        exact List.mem_append_left _ (i1 x0)
      · exact i2 x hx x0
theorem loop_q (g0 : List S50) (he : ∀ x ∈ g0, x.f0.length ≤ 4 ∧ ∀ n ∈ x.f0, n < (g0.length : Int)) (L : List Int) (k : Nat) : ∀ (i : Nat) (s : List Bool × List Int) (r : List Int), metLoop g0 k (i : Int) s = some r → QOk g0.length s →
    (∀ x ∈ L, 0 ≤ x → x ∈ s.2) → (∀ x ∈ s.2, Rch g0 L x) → (∀ j : Nat, j < i → ∀ y ∈ (rd_T50 g0 (rd s.2 (j : Int))).f0, 0 ≤ y → y ∈ s.2) → i ≤ s.2.length → ∀ x, x ∈ r ↔ Rch g0 L x := by
  induction k with
  | zero => exact fun i s r h => by simp [metLoop] at h
  | succ k ih =>
    intro i s r h hq hL hR hC hi
    simp only [metLoop] at h
    by_cases c : (i : Int) < (s.2.length : Int)
    · rw [if_pos c] at h
      by_cases c2 : 0 ≤ rd s.2 (i : Int) ∧ rd s.2 (i : Int) < (g0.length : Int) ∧ s.2.length ≤ 1000
      · rw [if_pos c2, wnext i (by omega)] at h
        have hnd := he _ (node_mem g0 _ c2.1 c2.2.1)
        obtain ⟨q2, ⟨t, e, m⟩, i2⟩ := fold_q _ hnd.2 s hq
        have hme := hR _ (rdI_mem s.2 (i : Int) (by omega) c)
        refine ih (i + 1) _ r h q2 (fun x hx x0 => by rw [e]; exact List.mem_append_left _ (hL x hx x0)) (fun x hx => ?_) (fun j hj y hy y0 => ?_) (by rw [e, List.length_append]; omega)
        · rw [e] at hx
          rcases List.mem_append.1 hx with hx | hx
          · exact hR x hx
          · exact Rch.step hme (m x hx).1 (m x hx).2
        · rw [e, rd_left _ _ _ (by omega)] at hy
          by_cases ej : j = i
          · subst ej
            exact i2 y hy y0
          · rw [e]
            exact List.mem_append_left _ (hC j (by omega) y hy y0)
      · rw [if_neg c2] at h
        cases h
    · rw [if_neg c] at h
      obtain rfl := Option.some.inj h
      intro x
      constructor
      · exact hR x
      · intro hx
        refine hx (fun x => x ∈ s.2) hL (fun p n hp hn n0 => ?_)
        obtain ⟨j, hj, hjx⟩ := List.mem_iff_getElem.1 hp
        refine hC j (by omega) n ?_ n0
        rw [rd_at s.2 j hj, hjx]
        exact hn
theorem order_q (g0 : List S50) (n : Int) (hg : GOk g0 [[n]] []) (K : Nat) (hK : 10000 < K) : ∃ r, spec_l5Order.f K g0 [[n]] [] = some r ∧ r.length ≤ g0.length ∧ (∀ x ∈ r, 0 ≤ x ∧ x < (g0.length : Int)) ∧ ∀ x, x ∈ r ↔ Rch g0 [n] x := by
  have hn0 := hg.n0
  have s0 : SOk g0.length (List.replicate g0.length false, ([] : List Int)) := ⟨by simp, by simp, by simp⟩
  have q0 : QOk g0.length (List.replicate g0.length false, ([] : List Int)) := ⟨s0, fun x _ _ => by
    show rdOf false (List.replicate g0.length false) x = true ↔ x ∈ []
    rw [rep_no]
    simp⟩
  have s1 := roots_ok [[n]] (fun r hr => (hg.r1 r hr).2) _ s0
  have s2 := fold_ok [] (fun n hn => by simp at hn) _ s1
  obtain ⟨r, h1, h2, h3⟩ := loop_some hg 200 0 _ s2 (by omega)
  have z : ((0 : Nat) : Int) = 0 := rfl
  rw [z] at h1
  refine ⟨r, ?_, h2, h3, ?_⟩
  · unfold spec_l5Order.f
    rw [if_pos (by omega), if_pos (by omega), Int.toNat_natCast]
    obtain ⟨K1, a1, a2⟩ := roots_go g0 [[n]] [] hg 1 K 0 _ s0 (by omega) rfl (by omega)
    obtain ⟨K2, b1, b2⟩ := pins_go g0 [[n]] [] hg 0 K1 0 _ s1 (by omega) rfl (by omega)
    rw [List.drop_zero] at a2 b2
    rw [z] at a2 b2
    exact a2.trans (b2.trans (nodes_go g0 [[n]] [] hg 201 0 K2 _ r (by omega) s2 h1 (by omega)))
  · obtain ⟨qa, ⟨t, e, m⟩, ia⟩ := fold_q [n] (hg.r1 [n] List.mem_cons_self).2 _ q0
    refine loop_q g0 hg.e1 [n] 201 0 _ r h1 qa ia (fun x hx => ?_) (fun j hj => by omega) (by omega)
    have hx : x ∈ ([n].foldl meetStep (List.replicate g0.length false, ([] : List Int))).2 := hx
    rw [e] at hx
    have hx : x ∈ t := hx
    exact Rch.base (m x hx).1 (m x hx).2
theorem mark_q (l : List Int) (N : Nat) (hl : ∀ x ∈ l, 0 ≤ x ∧ x < (N : Int)) (hs : l.length ≤ 1000000) (d : Nat) : ∀ (k i : Nat) (a : List Bool), a.length = N → i ≤ l.length → l.length - i = d → d < k →
    ∃ r, spec_GraphReach.l0 k a l (i : Int) = some r ∧ r.length = N ∧ ∀ x : Int, 0 ≤ x → (rdOf false r x = true ↔ rdOf false a x = true ∨ x ∈ l.drop i) := by
  induction d with
  | zero =>
    intro k i a ha hi hd hk
    obtain ⟨k, rfl⟩ : ∃ m, k = m + 1 := ⟨k - 1, by omega⟩
    simp only [spec_GraphReach.l0]
    rw [if_neg (by omega)]
    refine ⟨a, rfl, ha, fun x x0 => ?_⟩
    rw [List.drop_eq_nil_of_le (by omega)]
    simp
  | succ d ih =>
    intro k i a ha hi hd hk
    obtain ⟨k, rfl⟩ : ∃ m, k = m + 1 := ⟨k - 1, by omega⟩
    simp only [spec_GraphReach.l0]
    have hil : i < l.length := by omega
    have hm := hl _ (rdI_mem l (i : Int) (by omega) (by omega))
    rw [if_pos (by omega), if_pos (by omega), if_pos hm.1, if_pos (by omega), wnext i (by omega)]
    obtain ⟨r, h1, h2, h3⟩ := ih k (i + 1) (a.set (rd l (i : Int)).toNat true) (by simpa using ha) (by omega) (by omega) (by omega)
    refine ⟨r, h1, h2, fun x x0 => ?_⟩
    rw [h3 x x0, setb a _ x true hm.1 (by omega) x0, List.drop_eq_getElem_cons hil, rd_at l i hil]
    rw [List.mem_cons]
    by_cases e : x = l[i]
    · rw [if_pos e]
      exact ⟨fun _ => Or.inr (Or.inl e), fun _ => Or.inl rfl⟩
    · rw [if_neg e]
      exact ⟨fun h => h.imp (fun h => h) Or.inr, fun h => h.imp (fun h => h) (fun h => h.resolve_left e)⟩
theorem one_ok {g0 : List S50} {g1 : List (List Int)} {g2 : List Int} (h : gOkB g0 g1 g2 = true) {x : S50} (hx : x ∈ g0) {n : Int} (hn : n ∈ x.f0) : gOkB g0 [[n]] [] = true := by
  simp only [gOkB, Bool.and_eq_true, decide_eq_true_eq, Bool.not_eq_true'] at h ⊢
  obtain ⟨⟨h0, h1, h2⟩, h3, h4, h5, h6⟩ := h
  refine ⟨⟨h0, by simp, by simp⟩, h3, ?_, by simp, rfl⟩
  rw [List.any_eq_false] at h3
  have h7 := h3 x hx
  simp only [nodeBad, Bool.or_eq_true, decide_eq_true_eq, not_or, Bool.not_eq_true] at h7
  have h8 := off_no h7.2.2 n hn
  simp only [List.any_cons, List.any_nil, rootBad, offP, Bool.or_false, Bool.or_eq_false_iff, decide_eq_false_iff_not, List.length_cons, List.length_nil]
  omega
theorem node_two {g0 : List S50} {g1 : List (List Int)} {g2 : List Int} (h : gOkB g0 g1 g2 = true) {x : S50} (hx : x ∈ g0) : x.f0.length ≤ 4 ∧ x.f1.length ≤ 4 := by
  simp only [gOkB, Bool.and_eq_true, decide_eq_true_eq, Bool.not_eq_true'] at h
  obtain ⟨⟨h0, h1, h2⟩, h3, h4, h5, h6⟩ := h
  rw [List.any_eq_false] at h3
  have h7 := h3 x hx
  simp only [nodeBad, Bool.or_eq_true, decide_eq_true_eq, not_or, Bool.not_eq_true] at h7
  omega
theorem reach_q (g0 : List S50) (n : Int) (hB : gOkB g0 [[n]] [] = true) (K : Nat) (hK : 3145800 < K) : ∃ m, spec_GraphReach.f K g0 [[n]] [] = some m ∧ m.length = g0.length ∧ ∀ x : Int, 0 ≤ x → (rdOf false m x = true ↔ Rch g0 [n] x) := by
  have hg := g_ok hB
  have hn0 := hg.n0
  obtain ⟨l, e1, e2, e3, e4⟩ := order_q g0 n hg K (by omega)
  obtain ⟨r, h1, h2, h3⟩ := mark_q l g0.length e3 (by omega) l.length K 0 (List.replicate (g0.length : Int).toNat false) (by simp) (by omega) (by omega) (by omega)
  refine ⟨r, ?_, h2, fun x x0 => ?_⟩
  · unfold spec_GraphReach.f
    rw [graph_spec g0 [[n]] [] (by omega) (by simp) (by simp) K hK, hB]
    simp only [Option.bind_some]
    rw [if_pos trivial, if_pos (by omega), if_pos (by omega), e1]
    exact h1
  · rw [h3 x x0, rep_no, List.drop_zero, e4 x]
    simp
theorem orN_at (out m : List Bool) (x : Int) (x0 : 0 ≤ x) : ∀ i : Nat, i ≤ out.length → rdOf false (orN i out m) x = if x < (i : Int) then (rdOf false out x || rdOf false m x) else rdOf false out x
  | 0, _ => by rw [if_neg (by omega)]; rfl
  | i + 1, h => by
    have ih := fun y (y0 : 0 ≤ y) => orN_at out m y y0 i (by omega)
    have hlen := orN_length i out m
    have hs := setb (orN i out m) (i : Int) x (rdOf false (orN i out m) (i : Int) || rdOf false m (i : Int)) (by omega) (by rw [hlen]; omega) x0
    rw [Int.toNat_natCast] at hs
    rw [orN, hs]
    by_cases e : x = (i : Int)
    · rw [if_pos e, ih (i : Int) (by omega), if_neg (by omega), if_pos (by omega), e]
    · rw [if_neg e, ih x x0]
      by_cases c : x < (i : Int)
      · rw [if_pos c, if_pos (by omega)]
      · rw [if_neg c, if_neg (by omega)]
theorem go_q (g0 : List S50) (hN : g0.length ≤ 200) (K : Nat) (hK : 3145800 < K) : ∀ (L : List Int), (∀ n ∈ L, gOkB g0 [[n]] [] = true) → ∀ out : List Bool, out.length = g0.length →
    ∃ r, spec_l17Below.go K g0 L out = some r ∧ r.length = g0.length ∧ ∀ x : Int, 0 ≤ x → x < (g0.length : Int) → (rdOf false r x = true ↔ rdOf false out x = true ∨ ∃ n ∈ L, Rch g0 [n] x)
  | [], _, out, ho => ⟨out, rfl, ho, fun x _ _ => by simp⟩
  | n :: rest, hL, out, ho => by
    obtain ⟨m, h1, h2, h3⟩ := reach_q g0 n (hL n List.mem_cons_self) K hK
    obtain ⟨r, r1, r2, r3⟩ := go_q g0 hN K hK rest (fun q hq => hL q (List.mem_cons_of_mem _ hq)) (orN m.length out m) (by rw [orN_length]; exact ho)
    refine ⟨r, ?_, r2, fun x x0 x1 => ?_⟩
    · rw [spec_l17Below.go, h1]
      simp only [Option.bind_some]
      rw [if_pos ⟨by omega, by omega⟩]
      exact r1
    · rw [r3 x x0 x1, orN_at out m x x0 m.length (by omega), if_pos (by omega), Bool.or_eq_true, h3 x x0]
      simp only [List.mem_cons]
      constructor
      · rintro ((h | h) | ⟨q, hq, h⟩)
        · exact Or.inl h
        · exact Or.inr ⟨n, Or.inl rfl, h⟩
        · exact Or.inr ⟨q, Or.inr hq, h⟩
      · rintro (h | ⟨q, rfl | hq, h⟩)
        · exact Or.inl (Or.inl h)
        · exact Or.inl (Or.inr h)
        · exact Or.inr ⟨q, hq, h⟩
theorem ints_eq (l : List Int) (h : l.length ≤ 1048576) : spec_l5Ints.f l = some l := by
  unfold spec_l5Ints.f
  simp only [Option.bind_some]
  rw [if_pos (by simp only [List.length_nil]; omega), List.nil_append]
theorem copy_roots (g0 : List S50) (g1 : List (List Int)) (g2 : List Int) (a0 : List S50) (a2 : List Int) (hr : g1.length ≤ 3) (hr1 : ∀ x ∈ g1, x.length ≤ 8) (d : Nat) : ∀ (k i : Nat) (acc : List (List Int)), acc = g1.take i → i ≤ g1.length → g1.length - i = d → d < k →
    spec_l5Copy.l1 k (i : Int) g0 g1 g2 a0 acc a2 = some (a0, g1, a2) := by
  induction d with
  | zero =>
    intro k i acc ha hi hd hk
    obtain ⟨k, rfl⟩ : ∃ m, k = m + 1 := ⟨k - 1, by omega⟩
    simp only [spec_l5Copy.l1]
    rw [if_neg (by omega), ha, List.take_of_length_le (by omega)]
  | succ d ih =>
    intro k i acc ha hi hd hk
    obtain ⟨k, rfl⟩ : ∃ m, k = m + 1 := ⟨k - 1, by omega⟩
    have hil : i < g1.length := by omega
    have hl := hr1 _ (List.getElem_mem hil)
    have hal : acc.length = i := by rw [ha, List.length_take]; omega
    simp only [spec_l5Copy.l1]
    rw [if_pos (by omega), if_pos (by omega), L1_at g1 i hil, ints_eq _ (by omega)]
    simp only [Option.bind_some]
    rw [if_pos (by omega), wnext i (by omega)]
    refine ih k (i + 1) _ ?_ (by omega) (by omega) (by omega)
    rw [ha, List.take_add_one, List.getElem?_eq_getElem hil]
    rfl
theorem copy_nodes (g0 : List S50) (g1 : List (List Int)) (g2 : List Int) (a2 : List Int) (hn : g0.length ≤ 200) (hn1 : ∀ x ∈ g0, x.f0.length ≤ 4 ∧ x.f1.length ≤ 4) (hr : g1.length ≤ 3) (hr1 : ∀ x ∈ g1, x.length ≤ 8) (d : Nat) : ∀ (k i : Nat) (acc : List S50), acc = g0.take i → i ≤ g0.length → g0.length - i = d → d + 10 < k →
    spec_l5Copy.l0 k (i : Int) g0 g1 g2 acc a2 = some (g0, g1, a2) := by
  induction d with
  | zero =>
    intro k i acc ha hi hd hk
    obtain ⟨k, rfl⟩ : ∃ m, k = m + 1 := ⟨k - 1, by omega⟩
    simp only [spec_l5Copy.l0]
    rw [if_neg (by omega), ha, List.take_of_length_le (by omega)]
    exact copy_roots g0 g1 g2 g0 a2 hr hr1 g1.length k 0 [] rfl (by omega) (by omega) (by omega)
  | succ d ih =>
    intro k i acc ha hi hd hk
    obtain ⟨k, rfl⟩ : ∃ m, k = m + 1 := ⟨k - 1, by omega⟩
    have hil : i < g0.length := by omega
    have hl := hn1 _ (List.getElem_mem hil)
    have hal : acc.length = i := by rw [ha, List.length_take]; omega
    simp only [spec_l5Copy.l0]
    rw [if_pos (by omega), if_pos (by omega), T50_at g0 i hil, ints_eq _ (by omega), ints_eq _ (by omega)]
    simp only [Option.bind_some]
    rw [if_pos (by omega), wnext i (by omega)]
    refine ih k (i + 1) _ ?_ (by omega) (by omega) (by omega)
    rw [ha, List.take_add_one, List.getElem?_eq_getElem hil]
    rfl
theorem copy_eq (g0 : List S50) (g1 : List (List Int)) (g2 : List Int) (hB : gOkB g0 g1 g2 = true) (K : Nat) (hK : 1000 < K) : spec_l5Copy.f K g0 g1 g2 = some (g0, g1, g2) := by
  have hg := g_ok hB
  have hn0 := hg.n0
  have hp0 := hg.p0
  unfold spec_l5Copy.f
  rw [ints_eq g2 (by omega)]
  simp only [Option.bind_some]
  exact copy_nodes g0 g1 g2 g2 hn0 (fun x hx => node_two hB hx) hg.r0 (fun x hx => (hg.r1 x hx).1) g0.length K 0 [] rfl (by omega) (by omega) (by omega)
theorem below_q (g0 : List S50) (g1 : List (List Int)) (g2 : List Int) (hB : gOkB g0 g1 g2 = true) (K : Nat) (hK : 3145800 < K) (z : Int) (z0 : 0 ≤ z) (z1 : z < (g0.length : Int)) :
    ∃ m, spec_l17Below.f K g0 g1 g2 z = some m ∧ m.length = g0.length ∧ (rdOf false m z = true ↔ Rch g0 (rd_T50 g0 z).f0 z) := by
  have hg := g_ok hB
  have hn0 := hg.n0
  have hx := node_mem g0 z z0 z1
  have hnd := node_two hB hx
  obtain ⟨m, h1, h2, h3⟩ := go_q g0 hn0 K hK (rd_T50 g0 z).f0 (fun n hn => one_ok hB hx hn) (List.replicate g0.length false) (by simp)
  refine ⟨m, ?_, h2, ?_⟩
  · unfold spec_l17Below.f
    rw [copy_eq g0 g1 g2 hB K (by omega)]
    simp only [Option.bind_some]
    rw [if_pos ⟨⟨z0, z1⟩, by omega, by omega⟩]
    exact h1
  · rw [h3 z z0 z1, rep_no, rch_one]
    simp
theorem loops_q (g0 : List S50) (g1 : List (List Int)) (g2 : List Int) (hB : gOkB g0 g1 g2 = true) (K : Nat) (hK : 3145800 < K) (d : Nat) : ∀ (k i : Nat) (out : List Int), i + d = g0.length → out.length ≤ i → 3145800 + d < k →
    ∃ r, r.length ≤ g0.length ∧ spec_PathLoops.l0 k out (i : Int) g0 g1 g2 = some r ∧ impl_PathLoops.go g0 K d (i : Int) out = some r := by
  have hg := g_ok hB
  have hn0 := hg.n0
  induction d with
  | zero =>
    intro k i out hi ho hk
    obtain ⟨k, rfl⟩ : ∃ m, k = m + 1 := ⟨k - 1, by omega⟩
    simp only [spec_PathLoops.l0]
    rw [if_neg (by omega)]
    exact ⟨out, by omega, rfl, rfl⟩
  | succ d ih =>
    intro k i out hi ho hk
    obtain ⟨k, rfl⟩ : ∃ m, k = m + 1 := ⟨k - 1, by omega⟩
    have z0 : (0 : Int) ≤ (i : Int) := by omega
    have z1 : (i : Int) < (g0.length : Int) := by omega
    have hnd := hg.e1 _ (node_mem g0 (i : Int) z0 z1)
    obtain ⟨m, m1, m2, m3⟩ := below_q g0 g1 g2 hB k (by omega) (i : Int) z0 z1
    obtain ⟨S, s1, s2⟩ := dfs_rch g0 hn0 hg.e1 K (by omega) (rd_T50 g0 (i : Int)).f0 hnd.2 hnd.1
    simp only [spec_PathLoops.l0, impl_PathLoops.go]
    rw [if_pos z1, m1, s1]
    simp only [Option.bind_some]
    rw [if_pos z0, if_pos (by omega), wnext i (by omega)]
    by_cases c : rdOf false m (i : Int) = true
    · rw [if_pos c, if_pos (by omega), if_pos ((s2 _).2 (m3.1 c))]
      exact ih k (i + 1) (out ++ [(i : Int)]) (by omega) (by simp only [List.length_append, List.length_cons, List.length_nil]; omega) (by omega)
    · rw [if_neg c, if_neg (fun h => c (m3.2 ((s2 _).1 h)))]
      exact ih k (i + 1) out (by omega) (by omega) (by omega)
theorem loops_both (g0 : List S50) (g1 : List (List Int)) (g2 : List Int) (h0 : g0.length ≤ 1048576) (h1 : g1.length ≤ 1048576) (h2 : g2.length ≤ 1048576) (K : Nat) (hK : 4000000 < K) : ∃ r : List Int, r.length ≤ 200 ∧ spec_PathLoops.f K g0 g1 g2 = some r ∧ impl_PathLoops.f K g0 g1 g2 = some r := by
  unfold spec_PathLoops.f impl_PathLoops.f
  rw [graph_spec g0 g1 g2 h0 h1 h2 K (by omega), graph_impl g0 g1 g2 h0 h1 K (by omega)]
  simp only [Option.bind_some]
  cases hB : gOkB g0 g1 g2 with
  | false => exact ⟨[], by simp, rfl, rfl⟩
  | true =>
    have hn0 := (g_ok hB).n0
    obtain ⟨r, r0, r1, r2⟩ := loops_q g0 g1 g2 hB K (by omega) g0.length K 0 [] (by omega) (by simp) (by omega)
    rw [if_pos rfl, if_pos rfl, if_pos (by omega)]
    exact ⟨r, by omega, r1, r2⟩

theorem FnExactPathLoops (l0 : List S72) (l1 : List (List Int)) (l2 : List Int) (h0 : l0.length ≤ maxLen ∧ ∀ x ∈ l0, (x.f0.length ≤ maxLen ∧ ∀ y ∈ x.f0, (Lit.int .i64 y).wf = true) ∧ (x.f1.length ≤ maxLen ∧ ∀ y ∈ x.f1, (Lit.int .i64 y).wf = true)) (h1 : l1.length ≤ maxLen ∧ ∀ x ∈ l1, x.length ≤ maxLen ∧ ∀ y ∈ x, (Lit.int .i64 y).wf = true) (h2 : l2.length ≤ maxLen ∧ ∀ y ∈ l2, (Lit.int .i64 y).wf = true) : ∃ k, laws_FnExactPathLoops.f k l0 l1 l2 = some true := by
  obtain ⟨K, hK⟩ : ∃ K, 4000000 < K := ⟨4000001, by omega⟩
  refine ⟨K, ?_⟩
  obtain ⟨z, hz, hz2⟩ := szGraph_eq l0 l1 l2 h0.1 (fun x hx => ⟨(h0.2 x hx).1.1, (h0.2 x hx).2.1⟩) h1.1 (fun x hx => (h1.2 x hx).1) h2.1 K (by omega)
  unfold laws_FnExactPathLoops.f
  refine sb hz ?_
  by_cases hz0 : z < 0
  · exact st hz0 rfl
  have hB := hz2.resolve_left hz0
  have ho := toGraph_eq l0 l1 l2 hB K (by omega)
  have hl : (l0.map cvN).length ≤ 1048576 := by simpa using hB.n0
  obtain ⟨r, hr, rs, ri⟩ := loops_both (l0.map cvN) l1 l2 hl hB.r0 hB.p0 K hK
  obtain ⟨mk, hm, hm0⟩ := markGraph_some l0 l1 l2 hB K (by omega)
  have e4 := laws_markIntS_eq r 1 ⟨by omega, by omega⟩ (by omega) K (by omega)
  have e5 := laws_heldIntS_eq r 1 ⟨by omega, by omega⟩ (by omega) K (by omega)
  refine sf hz0 (sb ho ?_)
  dsimp only
  refine sb rs (sb ri (sb (laws_eqIntS_self r (by omega) K (by omega)) (sb (eqGraph_eq l0 l1 l2 hB K (by omega)) (sb hm (sb e4 ?_)))))
  dsimp only
  exact sb e5 (if_pos ⟨rfl, rfl, hm0, neg_len _, rfl⟩)

end Go.Proofs.Ytdaikmojalfimaa.Pure
