/- TableNew of the program answers as the reference does, at every int, with new memory each time. No condition. -/
import Derived.Test.YtfonbakjfajbcaaPFnExactTableNewx3
namespace Go.Proofs.Ytfonbakjfajbcaa.Pure
open Go.RowKit Go.Proofs.Ytfonbakjfajbcaa.PFnExactTableNew Go.Proofs.YtfonbakjfajbcaaW.PrintWords Go.Proofs.YtfonbakjfajbcaaW.PrintLast Go.Proofs.YtfonbakjfajbcaaW.PrintMore
set_option linter.unusedVariables false
set_option linter.unusedSimpArgs false

theorem w64 {x : Int} (h0 : -9223372036854775808 ≤ x) (h1 : x ≤ 9223372036854775807) : wrap64 x = x := by
  unfold wrap64
  omega
theorem wnext (i : Nat) (h : i < 9223372036854775807) : wrap64 ((i : Int) + 1) = ((i + 1 : Nat) : Int) := by
  unfold wrap64
  omega
theorem rdOf_at {α : Type} (d : α) (l : List α) (i : Nat) (h : i < l.length) : rdOf d l (i : Int) = l[i] := by
  simp [rdOf, List.getD, h]
theorem rd_at (l : List Int) (i : Nat) (h : i < l.length) : rd l (i : Int) = l[i] := by
  simp [rd, List.getD, h]
theorem set_step {α : Type} (l m : List α) (i : Nat) (v : α) (hl : l.length = m.length) (hi : i < m.length) (hv : m[i]? = some v)
    (hp : ∀ j, j < i → l[j]? = m[j]?) : (l.set i v).length = m.length ∧ ∀ j, j < i + 1 → (l.set i v)[j]? = m[j]? := by
  refine ⟨by simp [hl], fun j hj => ?_⟩
  rw [List.getElem?_set]
  by_cases e : i = j
  · subst e
    rw [if_pos rfl, if_pos (by omega), hv]
  · rw [if_neg e]
    exact hp j (by omega)
theorem all_eq {α : Type} (l m : List α) (hl : l.length = m.length) (hp : ∀ j, j < m.length → l[j]? = m[j]?) : l = m := by
  apply List.ext_getElem?
  intro j
  by_cases hj : j < m.length
  · exact hp j hj
  · rw [List.getElem?_eq_none (by omega), List.getElem?_eq_none (by omega)]

theorem b64 {n : Int} (h : (Lit.int .i64 n).wf = true) : -9223372036854775808 ≤ n ∧ n ≤ 9223372036854775807 := by
  simp [Lit.wf, IntKind.min, IntKind.max, IntKind.signed, IntKind.bits] at h
  omega
theorem b8 {n : Int} (h : (Lit.int .u8 n).wf = true) : 0 ≤ n ∧ n ≤ 255 := by
  simp [Lit.wf, IntKind.min, IntKind.max, IntKind.signed, IntKind.bits] at h
  omega

theorem rdT_at (l : List S41) (i : Nat) (h : i < l.length) : rd_T41 l (i : Int) = l[i] := by
  simp [rd_T41, List.getD, h]
theorem laws_eqRegion_self (a0 a1 a2 a3 a4 : Int) : laws_eqRegion.f a0 a1 a2 a3 a4 a0 a1 a2 a3 a4 = some true := by
  simp [laws_eqRegion.f]
theorem laws_eqRegionS_go (l : List S41) (hl : l.length ≤ 1048576) (d : Nat) : ∀ (k i : Nat), i ≤ l.length → l.length - i = d → d < k → laws_eqRegionS.l0 k l l (i : Int) = some true := by
  induction d with
  | zero =>
    intro k i hi hd hk
    obtain ⟨k, rfl⟩ : ∃ m, k = m + 1 := ⟨k - 1, by omega⟩
    simp only [laws_eqRegionS.l0]
    rw [if_neg (by omega)]
  | succ d ih =>
    intro k i hi hd hk
    obtain ⟨k, rfl⟩ : ∃ m, k = m + 1 := ⟨k - 1, by omega⟩
    simp only [laws_eqRegionS.l0]
    rw [if_pos (by omega), if_pos (by omega), if_pos (by omega), wnext i (by omega), laws_eqRegion_self]
    simp only [Option.bind_some, if_true]
    exact ih k (i + 1) (by omega) (by omega) (by omega)
theorem laws_eqRegionS_self (l : List S41) (hl : l.length ≤ 1048576) (k : Nat) (hk : 1048576 < k) : laws_eqRegionS.f k l l = some true := by
  unfold laws_eqRegionS.f
  rw [if_pos rfl]
  exact laws_eqRegionS_go l hl l.length k 0 (by omega) (by omega) (by omega)

def laws_markRegionS_val (m : Int) : S41 := ⟨m, m + 1, m + 2, m + 3, m + 4⟩
def laws_markRegionS_list (l : List S41) (n : Int) : List S41 := (List.range l.length).map fun j : Nat => laws_markRegionS_val (n + 5 * (j : Int))
theorem laws_markRegionS_list_length (l : List S41) (n : Int) : (laws_markRegionS_list l n).length = l.length := by simp [laws_markRegionS_list]
theorem laws_markRegionS_list_at (l : List S41) (n : Int) (i : Nat) (h : i < l.length) : (laws_markRegionS_list l n)[i]? = some (laws_markRegionS_val (n + 5 * (i : Int))) := by simp [laws_markRegionS_list, h]
theorem laws_markRegionS_go (l : List S41) (n : Int) (hn : 0 ≤ n ∧ n ≤ 4611686018427387904) (hl : l.length ≤ 1048576) (d : Nat) : ∀ (k i : Nat) (acc : List S41), acc.length = (laws_markRegionS_list l n).length → i ≤ l.length → l.length - i = d → d < k →
    (∀ j, j < i → acc[j]? = (laws_markRegionS_list l n)[j]?) → laws_markRegionS.l0 k acc (n + 5 * (i : Int)) (i : Int) = some (n + 5 * (l.length : Int), laws_markRegionS_list l n) := by
  induction d with
  | zero =>
    intro k i acc ha hi hd hk hp
    obtain ⟨k, rfl⟩ : ∃ m, k = m + 1 := ⟨k - 1, by omega⟩
    have hL := laws_markRegionS_list_length l n
    simp only [laws_markRegionS.l0]
    rw [if_neg (by omega), all_eq acc (laws_markRegionS_list l n) ha (fun j hj => hp j (by omega)), show i = l.length by omega]
  | succ d ih =>
    intro k i acc ha hi hd hk hp
    obtain ⟨k, rfl⟩ : ∃ m, k = m + 1 := ⟨k - 1, by omega⟩
    have hL := laws_markRegionS_list_length l n
    have hr : ∀ v, rd_T41 (acc.set i v) (i : Int) = v := by
      intro v
      simp [rd_T41, List.getD, show i < acc.length by omega]
    obtain ⟨h1, h2⟩ := set_step acc (laws_markRegionS_list l n) i _ ha (by omega) (laws_markRegionS_list_at l n i (by omega)) hp
    have hx := ih k (i + 1) _ h1 (by omega) (by omega) (by omega) h2
    generalize hm : n + 5 * (i : Int) = m at *
    have hm2 : n + 5 * ((i + 1 : Nat) : Int) = m + 5 := by omega
    rw [hm2] at hx
    simp only [laws_markRegionS.l0]
    rw [if_pos (by omega), if_pos (by omega), wnext i (by omega)]
    simp only [Option.bind_some, Int.toNat_natCast, hr, List.set_set]
    rw [w64 (x := m + 1) (by omega) (by omega)]
    rw [w64 (x := m + 1 + 1) (by omega) (by omega), show m + 1 + 1 = m + 2 by omega]
    rw [w64 (x := m + 2 + 1) (by omega) (by omega), show m + 2 + 1 = m + 3 by omega]
    rw [w64 (x := m + 3 + 1) (by omega) (by omega), show m + 3 + 1 = m + 4 by omega]
    rw [w64 (x := m + 4 + 1) (by omega) (by omega), show m + 4 + 1 = m + 5 by omega]
    exact hx
theorem laws_markRegionS_eq (l : List S41) (n : Int) (hn : 0 ≤ n ∧ n ≤ 4611686018427387904) (hl : l.length ≤ 1048576) (k : Nat) (hk : 1048576 < k) : laws_markRegionS.f k l n = some (n + 5 * (l.length : Int), laws_markRegionS_list l n) := by
  have hL := laws_markRegionS_list_length l n
  have h := laws_markRegionS_go l n hn hl l.length k 0 l (by omega) (by omega) (by omega) (by omega) (by intro j hj; omega)
  unfold laws_markRegionS.f
  simpa using h

theorem laws_heldRegionS_go (l : List S41) (n : Int) (hn : 0 ≤ n ∧ n ≤ 4611686018427387904) (hl : l.length ≤ 1048576) (d : Nat) : ∀ (k i : Nat), i ≤ l.length → l.length - i = d → d < k →
    laws_heldRegionS.l0 k (laws_markRegionS_list l n) (n + 5 * (i : Int)) (i : Int) = some (n + 5 * (l.length : Int)) := by
  induction d with
  | zero =>
    intro k i hi hd hk
    obtain ⟨k, rfl⟩ : ∃ m, k = m + 1 := ⟨k - 1, by omega⟩
    have hL := laws_markRegionS_list_length l n
    simp only [laws_heldRegionS.l0]
    rw [if_neg (by omega), show i = l.length by omega]
  | succ d ih =>
    intro k i hi hd hk
    obtain ⟨k, rfl⟩ : ∃ m, k = m + 1 := ⟨k - 1, by omega⟩
    have hL := laws_markRegionS_list_length l n
    have hv : rd_T41 (laws_markRegionS_list l n) (i : Int) = laws_markRegionS_val (n + 5 * (i : Int)) := by
      rw [rdT_at _ i (by omega)]
      simp [laws_markRegionS_list]
    have hx := ih k (i + 1) (by omega) (by omega) (by omega)
    generalize hm : n + 5 * (i : Int) = m at *
    have hm2 : n + 5 * ((i + 1 : Nat) : Int) = m + 5 := by omega
    rw [hm2] at hx
    simp only [laws_heldRegionS.l0]
    rw [if_pos (by omega), if_pos (by omega), wnext i (by omega), hv]
    rw [w64 (x := m + 1) (by omega) (by omega)]
    rw [w64 (x := m + 1 + 1) (by omega) (by omega), show m + 1 + 1 = m + 2 by omega]
    rw [w64 (x := m + 2 + 1) (by omega) (by omega), show m + 2 + 1 = m + 3 by omega]
    rw [w64 (x := m + 3 + 1) (by omega) (by omega), show m + 3 + 1 = m + 4 by omega]
    rw [w64 (x := m + 4 + 1) (by omega) (by omega), show m + 4 + 1 = m + 5 by omega]
    simp only [laws_markRegionS_val, if_true]
    exact hx
theorem laws_heldRegionS_eq (l : List S41) (n : Int) (hn : 0 ≤ n ∧ n ≤ 4611686018427387904) (hl : l.length ≤ 1048576) (k : Nat) (hk : 1048576 < k) : laws_heldRegionS.f k (laws_markRegionS_list l n) n = some (n + 5 * (l.length : Int)) := by
  have h := laws_heldRegionS_go l n hn hl l.length k 0 (by omega) (by omega) (by omega)
  unfold laws_heldRegionS.f
  simpa using h

theorem neg_len (n : Nat) : ¬ ((1 : Int) + (n : Int) < 0) := by omega
theorem bne_no (b : Bool) : ¬ ((b != b) = true) := by simp
theorem ff : ¬ (false = true) := by simp
theorem ntt : ¬ ((!true) = true) := by simp
theorem sb {α β : Type} {o : Option α} {v : α} {f : α → Option β} {r : Option β} (h : o = some v) (k : f v = r) : o.bind f = r := by rw [h]; exact k
theorem st {α : Type} {c : Prop} [Decidable c] {a b r : α} (h : c) (k : a = r) : (if c then a else b) = r := by rw [if_pos h]; exact k
theorem sf {α : Type} {c : Prop} [Decidable c] {a b r : α} (h : ¬ c) (k : b = r) : (if c then a else b) = r := by rw [if_neg h]; exact k

theorem neg_mul (c : Int) (hc : 0 ≤ c) (n : Nat) : ¬ ((1 : Int) + c * (n : Int) < 0) := by
  have := Int.mul_nonneg hc (Int.natCast_nonneg n)
  omega

def freeR (i : Nat) : S41 := ⟨1, -1, 16 * (i : Int), 16 * (i : Int), 0⟩
def edgeR : S41 := ⟨0, -1, 0, 0, 0⟩
theorem base_of (i : Nat) (h : i < 12) : spec_RegionBase.f (i : Int) = some (16 * (i : Int)) := by
  unfold spec_RegionBase.f
  rw [if_neg (by omega), if_neg (by omega), w64 (by omega) (by omega)]
  exact congrArg some (by omega)
theorem spec_loop (n : Nat) (hn : 2 ≤ n ∧ n ≤ 12) (d : Nat) : ∀ (k i : Nat) (acc : List S41), acc = (List.range i).map freeR → i ≤ n → n - i = d → d < k →
    spec_TableNew.l0 k (n : Int) acc (i : Int) = some (((List.range n).map freeR).set 0 edgeR, true) := by
  induction d with
  | zero =>
    intro k i acc ha hi hd hk
    obtain ⟨k, rfl⟩ : ∃ m, k = m + 1 := ⟨k - 1, by omega⟩
    obtain rfl : i = n := by omega
    subst ha
    simp only [spec_TableNew.l0]
    rw [if_neg (by omega), if_pos (by simp; omega)]
    rfl
  | succ d ih =>
    intro k i acc ha hi hd hk
    obtain ⟨k, rfl⟩ : ∃ m, k = m + 1 := ⟨k - 1, by omega⟩
    simp only [spec_TableNew.l0]
    rw [if_pos (by omega), base_of i (by omega), wnext i (by omega)]
    simp only [Option.bind_some]
    rw [if_pos (by rw [ha]; simp; omega)]
    exact ih k (i + 1) _ (by rw [ha, List.range_succ, List.map_append]; rfl) (by omega) (by omega) (by omega)
theorem impl_loop (n : Nat) (hn : 2 ≤ n ∧ n ≤ 12) (d : Nat) : ∀ (k i : Nat) (acc : List S41), acc = ((List.range i).map freeR).set 0 edgeR → 1 ≤ i → i ≤ n → n - i = d → d < k →
    impl_TableNew.l0 k (n : Int) acc (i : Int) = some (((List.range n).map freeR).set 0 edgeR, true) := by
  induction d with
  | zero =>
    intro k i acc ha h1 hi hd hk
    obtain ⟨k, rfl⟩ : ∃ m, k = m + 1 := ⟨k - 1, by omega⟩
    obtain rfl : i = n := by omega
    simp only [impl_TableNew.l0]
    rw [if_neg (by omega), ha]
  | succ d ih =>
    intro k i acc ha h1 hi hd hk
    obtain ⟨k, rfl⟩ : ∃ m, k = m + 1 := ⟨k - 1, by omega⟩
    have hf : impl_free.f (i : Int) = some (1, -1, 16 * (i : Int), 16 * (i : Int), 0) := by
      unfold impl_free.f
      rw [show impl_RegionBase.f (i : Int) = some (16 * (i : Int)) from base_of i (by omega)]
      rfl
    simp only [impl_TableNew.l0]
    rw [if_pos (by omega), hf, wnext i (by omega)]
    simp only [Option.bind_some]
    rw [if_pos (by rw [ha]; simp; omega)]
    refine ih k (i + 1) _ ?_ (by omega) (by omega) (by omega) (by omega)
    rw [ha, List.range_succ, List.map_append, List.set_append_left _ _ (by simp; omega)]
    rfl
theorem new_both (a : Int) : ∃ r : List S41 × Bool, r.1.length ≤ 12 ∧ ∀ K, 100 < K → spec_TableNew.f K a = some r ∧ impl_TableNew.f K a = some r := by
  unfold spec_TableNew.f impl_TableNew.f
  have none_of : ∀ K, 100 < K → spec_TableNew.j0 K a true = some ([], false) ∧ impl_TableNew.j0 K a true = some ([], false) := by
    intro K hK
    obtain ⟨K, rfl⟩ : ∃ m, K = m + 1 := ⟨K - 1, by omega⟩
    simp only [spec_TableNew.j0, impl_TableNew.j0, if_true, and_self]
  by_cases h1 : a < 2
  · refine ⟨([], false), by simp, fun K hK => ?_⟩
    rw [if_pos h1, if_pos h1]
    exact none_of K hK
  by_cases h2 : a > 12
  · refine ⟨([], false), by simp, fun K hK => ?_⟩
    rw [if_neg h1, if_neg h1, decide_eq_true h2]
    exact none_of K hK
  obtain ⟨n, rfl⟩ : ∃ n : Nat, a = (n : Int) := ⟨a.toNat, by omega⟩
  refine ⟨(((List.range n).map freeR).set 0 edgeR, true), by simp; omega, fun K hK => ?_⟩
  obtain ⟨K, rfl⟩ : ∃ m, K = m + 1 := ⟨K - 1, by omega⟩
  rw [if_neg h1, if_neg h1, decide_eq_false h2]
  simp only [spec_TableNew.j0, impl_TableNew.j0, Bool.false_eq_true, if_false]
  refine ⟨spec_loop n (by omega) n K 0 [] rfl (by omega) (by omega) (by omega), ?_⟩
  exact impl_loop n (by omega) (n - 1) K 1 _ rfl (by omega) (by omega) (by omega) (by omega)
theorem FnExactTableNew (a : Int) (_ : (Lit.int .i64 a).wf = true) : ∃ k, laws_FnExactTableNew.f k a = some true := by
  obtain ⟨r, hl0, hr⟩ := new_both a
  have hl : r.1.length ≤ 1048576 := by omega
  have hS : ∀ K, 100 < K → spec_TableNew.f K a = some r := fun K hK => (hr K hK).1
  have hI : ∀ K, 100 < K → impl_TableNew.f K a = some r := fun K hK => (hr K hK).2
  obtain ⟨K, hK⟩ : ∃ K, 1048576 < K := ⟨1048577, by omega⟩
  refine ⟨K + 2, ?_⟩
  unfold laws_FnExactTableNew.f
  repeat (first
    | (with_reducible refine st rfl ?_)
    | (with_reducible refine sf (neg_len _) ?_)
    | (with_reducible refine sf (bne_no _) ?_)
    | (with_reducible refine sf ff ?_)
    | (with_reducible refine sf ntt ?_)
    | (with_reducible refine sf (neg_mul 5 (by omega) _) ?_)
    | ((with_reducible refine sb (hS _ ?_) ?_); omega; try dsimp only)
    | ((with_reducible refine sb (hI _ ?_) ?_); omega; try dsimp only)
    | ((with_reducible refine sb (laws_eqRegionS_self _ hl _ ?_) ?_); omega; try dsimp only)
    | ((with_reducible refine sb (laws_markRegionS_eq _ 1 ?_ hl _ ?_) ?_); omega; omega; try dsimp only)
    | ((with_reducible refine sb (laws_heldRegionS_eq _ 1 ?_ hl _ ?_) ?_); omega; omega; try dsimp only)
    | rw [laws_FnExactTableNew.j0]
    | rw [laws_FnExactTableNew.j1]
    | (with_reducible rfl))

end Go.Proofs.Ytfonbakjfajbcaa.Pure
