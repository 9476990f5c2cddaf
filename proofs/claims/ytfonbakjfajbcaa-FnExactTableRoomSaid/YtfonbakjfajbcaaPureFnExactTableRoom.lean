/- TableRoom of the program answers as the reference does, at every slice of regions of at most 2^20 elements and every two ints, leaves its argument alone, and answers with new memory each time. No condition. -/
import Derived.Test.YtfonbakjfajbcaaQFnExactTableRoomx11
namespace Go.Proofs.Ytfonbakjfajbcaa.Pure
open Go.RowKit Go.Proofs.Ytfonbakjfajbcaa.QFnExactTableRoom Go.Proofs.YtfonbakjfajbcaaW.PrintWords Go.Proofs.YtfonbakjfajbcaaW.PrintLast Go.Proofs.YtfonbakjfajbcaaW.PrintMore
set_option linter.unusedVariables false
set_option linter.unusedSimpArgs false

theorem w64 {x : Int} (h0 : -9223372036854775808 ≤ x) (h1 : x ≤ 9223372036854775807) : wrap64 x = x := by
  unfold wrap64
  omega
theorem wnext (i : Nat) (h : i < 9223372036854775807) : wrap64 ((i : Int) + 1) = ((i + 1 : Nat) : Int) := by
  unfold wrap64
  omega
theorem rdOf_at {α : Type} (d : α) (l : List α) (i : Nat) (h : i < l.length) : rdOf d l (i : Int) = l[i] := by
  simp [rdOf, List.getD, h]
theorem rd_at (l : List Int) (i : Nat) (h : i < l.length) : rd l (i : Int) = l[i] := by
  simp [rd, List.getD, h]
theorem set_step {α : Type} (l m : List α) (i : Nat) (v : α) (hl : l.length = m.length) (hi : i < m.length) (hv : m[i]? = some v)
    (hp : ∀ j, j < i → l[j]? = m[j]?) : (l.set i v).length = m.length ∧ ∀ j, j < i + 1 → (l.set i v)[j]? = m[j]? := by
  refine ⟨by simp [hl], fun j hj => ?_⟩
  rw [List.getElem?_set]
  by_cases e : i = j
  · subst e
    rw [if_pos rfl, if_pos (by omega), hv]
  · rw [if_neg e]
    exact hp j (by omega)
theorem all_eq {α : Type} (l m : List α) (hl : l.length = m.length) (hp : ∀ j, j < m.length → l[j]? = m[j]?) : l = m := by
  apply List.ext_getElem?
  intro j
  by_cases hj : j < m.length
  · exact hp j hj
  · rw [List.getElem?_eq_none (by omega), List.getElem?_eq_none (by omega)]

theorem b64 {n : Int} (h : (Lit.int .i64 n).wf = true) : -9223372036854775808 ≤ n ∧ n ≤ 9223372036854775807 := by
  simp [Lit.wf, IntKind.min, IntKind.max, IntKind.signed, IntKind.bits] at h
  omega
theorem b8 {n : Int} (h : (Lit.int .u8 n).wf = true) : 0 ≤ n ∧ n ≤ 255 := by
  simp [Lit.wf, IntKind.min, IntKind.max, IntKind.signed, IntKind.bits] at h
  omega

theorem neg_len (n : Nat) : ¬ ((1 : Int) + (n : Int) < 0) := by omega
theorem bne_no (b : Bool) : ¬ ((b != b) = true) := by simp
theorem ff : ¬ (false = true) := by simp
theorem ntt : ¬ ((!true) = true) := by simp
theorem sb {α β : Type} {o : Option α} {v : α} {f : α → Option β} {r : Option β} (h : o = some v) (k : f v = r) : o.bind f = r := by rw [h]; exact k
theorem st {α : Type} {c : Prop} [Decidable c] {a b r : α} (h : c) (k : a = r) : (if c then a else b) = r := by rw [if_pos h]; exact k
theorem sf {α : Type} {c : Prop} [Decidable c] {a b r : α} (h : ¬ c) (k : b = r) : (if c then a else b) = r := by rw [if_neg h]; exact k

def cvR (x : S46) : S41 := ⟨x.f0, x.f1, x.f2, x.f3, x.f4⟩
theorem T46_at (l : List S46) (i : Nat) (h : i < l.length) : rd_T46 l (i : Int) = l[i] := by
  simp [rd_T46, List.getD, h]
theorem T41_at (l : List S41) (i : Nat) (h : i < l.length) : rd_T41 l (i : Int) = l[i] := by
  simp [rd_T41, List.getD, h]
theorem toRegion_eq (a b c d e : Int) : laws_toRegion.f a b c d e = some (a, b, c, d, e) := rfl
theorem laws_toRegionS_go (l : List S46) (hl : l.length ≤ 1048576)  (d : Nat) : ∀ (k i : Nat) (acc : List S41), acc.length = (l.map cvR).length → i ≤ l.length → l.length - i = d → d  < k →
    (∀ j, j < i → acc[j]? = (l.map cvR)[j]?) → laws_toRegionS.l0 k l acc (i : Int) = some (l.map cvR) := by
  have hL : (l.map cvR).length = l.length := by simp
  induction d with
  | zero =>
    intro k i acc ha hi hd hk hp
    obtain ⟨k, rfl⟩ : ∃ m, k = m + 1 := ⟨k - 1, by omega⟩
    simp only [laws_toRegionS.l0]
    rw [if_neg (by omega)]
    exact congrArg some (all_eq acc (l.map cvR) ha (fun j hj => hp j (by omega)))
  | succ d ih =>
    intro k i acc ha hi hd hk hp
    obtain ⟨k, rfl⟩ : ∃ m, k = m + 1 := ⟨k - 1, by omega⟩
    simp only [laws_toRegionS.l0]
    rw [if_pos (by omega), if_pos (by omega), wnext i (by omega), T46_at l i (by omega), toRegion_eq]
    simp only [Option.bind_some]
    rw [if_pos (by omega), Int.toNat_natCast]
    obtain ⟨h1, h2⟩ := set_step acc (l.map cvR) i (cvR l[i]) ha (by omega) (by simp [show i < l.length by omega]) hp
    exact ih k (i + 1) _ h1 (by omega) (by omega) (by omega) h2
theorem laws_toRegionS_eq (l : List S46) (hl : l.length ≤ 1048576)  (k : Nat) (hk : 1048576 < k) : laws_toRegionS.f k l = some (l.map cvR) := by
  unfold laws_toRegionS.f
  rw [if_pos (by omega), if_pos (by omega)]
  exact laws_toRegionS_go l hl  l.length k 0 _ (by simp) (by omega) (by omega) (by omega) (by intro j hj; omega)

theorem szR_eq (l : List S46) (hl : l.length ≤ maxLen) : ∃ r, laws_szRegionS.f l 1048576 = some r ∧ (r < 0 ∨ l.length ≤ 1048576) := by
  have : (l.length : Int) ≤ 9223372036854775807 := by
    have : maxLen = 9223372036854775807 := rfl
    omega
  unfold laws_szRegionS.f
  rw [w64 (by omega) (by omega)]
  by_cases h : (1048576 : Int) - l.length < 0
  · rw [if_pos h]
    exact ⟨_, rfl, .inl (by omega)⟩
  · rw [if_neg h]
    exact ⟨_, rfl, .inr (by omega)⟩

theorem rdT_at (l : List S41) (i : Nat) (h : i < l.length) : rd_T41 l (i : Int) = l[i] := by
  simp [rd_T41, List.getD, h]
theorem laws_eqRegion_self (a0 a1 a2 a3 a4 : Int) : laws_eqRegion.f a0 a1 a2 a3 a4 a0 a1 a2 a3 a4 = some true := by
  simp [laws_eqRegion.f]
theorem laws_eqRegionS_go (l : List S41) (hl : l.length ≤ 1048576) (d : Nat) : ∀ (k i : Nat), i ≤ l.length → l.length - i = d → d < k → laws_eqRegionS.l0 k l l (i : Int) = some true := by
  induction d with
  | zero =>
    intro k i hi hd hk
    obtain ⟨k, rfl⟩ : ∃ m, k = m + 1 := ⟨k - 1, by omega⟩
    simp only [laws_eqRegionS.l0]
    rw [if_neg (by omega)]
  | succ d ih =>
    intro k i hi hd hk
    obtain ⟨k, rfl⟩ : ∃ m, k = m + 1 := ⟨k - 1, by omega⟩
    simp only [laws_eqRegionS.l0]
    rw [if_pos (by omega), if_pos (by omega), if_pos (by omega), wnext i (by omega), laws_eqRegion_self]
    simp only [Option.bind_some, if_true]
    exact ih k (i + 1) (by omega) (by omega) (by omega)
theorem laws_eqRegionS_self (l : List S41) (hl : l.length ≤ 1048576) (k : Nat) (hk : 1048576 < k) : laws_eqRegionS.f k l l = some true := by
  unfold laws_eqRegionS.f
  rw [if_pos rfl]
  exact laws_eqRegionS_go l hl l.length k 0 (by omega) (by omega) (by omega)

def laws_markRegionS_val (m : Int) : S41 := ⟨m, m + 1, m + 2, m + 3, m + 4⟩
def laws_markRegionS_list (l : List S41) (n : Int) : List S41 := (List.range l.length).map fun j : Nat => laws_markRegionS_val (n + 5 * (j : Int))
theorem laws_markRegionS_list_length (l : List S41) (n : Int) : (laws_markRegionS_list l n).length = l.length := by simp [laws_markRegionS_list]
theorem laws_markRegionS_list_at (l : List S41) (n : Int) (i : Nat) (h : i < l.length) : (laws_markRegionS_list l n)[i]? = some (laws_markRegionS_val (n + 5 * (i : Int))) := by simp [laws_markRegionS_list, h]
theorem laws_markRegionS_go (l : List S41) (n : Int) (hn : 0 ≤ n ∧ n ≤ 4611686018427387904) (hl : l.length ≤ 1048576) (d : Nat) : ∀ (k i : Nat) (acc : List S41), acc.length = (laws_markRegionS_list l n).length → i ≤ l.length → l.length - i = d → d < k →
    (∀ j, j < i → acc[j]? = (laws_markRegionS_list l n)[j]?) → laws_markRegionS.l0 k acc (n + 5 * (i : Int)) (i : Int) = some (n + 5 * (l.length : Int), laws_markRegionS_list l n) := by
  induction d with
  | zero =>
    intro k i acc ha hi hd hk hp
    obtain ⟨k, rfl⟩ : ∃ m, k = m + 1 := ⟨k - 1, by omega⟩
    have hL := laws_markRegionS_list_length l n
    simp only [laws_markRegionS.l0]
    rw [if_neg (by omega), all_eq acc (laws_markRegionS_list l n) ha (fun j hj => hp j (by omega)), show i = l.length by omega]
  | succ d ih =>
    intro k i acc ha hi hd hk hp
    obtain ⟨k, rfl⟩ : ∃ m, k = m + 1 := ⟨k - 1, by omega⟩
    have hL := laws_markRegionS_list_length l n
    have hr : ∀ v, rd_T41 (acc.set i v) (i : Int) = v := by
      intro v
      simp [rd_T41, List.getD, show i < acc.length by omega]
    obtain ⟨h1, h2⟩ := set_step acc (laws_markRegionS_list l n) i _ ha (by omega) (laws_markRegionS_list_at l n i (by omega)) hp
    have hx := ih k (i + 1) _ h1 (by omega) (by omega) (by omega) h2
    generalize hm : n + 5 * (i : Int) = m at *
    have hm2 : n + 5 * ((i + 1 : Nat) : Int) = m + 5 := by omega
    rw [hm2] at hx
    simp only [laws_markRegionS.l0]
    rw [if_pos (by omega), if_pos (by omega), wnext i (by omega)]
    simp only [Option.bind_some, Int.toNat_natCast, hr, List.set_set]
    rw [w64 (x := m + 1) (by omega) (by omega)]
    rw [w64 (x := m + 1 + 1) (by omega) (by omega), show m + 1 + 1 = m + 2 by omega]
    rw [w64 (x := m + 2 + 1) (by omega) (by omega), show m + 2 + 1 = m + 3 by omega]
    rw [w64 (x := m + 3 + 1) (by omega) (by omega), show m + 3 + 1 = m + 4 by omega]
    rw [w64 (x := m + 4 + 1) (by omega) (by omega), show m + 4 + 1 = m + 5 by omega]
    exact hx
theorem laws_markRegionS_eq (l : List S41) (n : Int) (hn : 0 ≤ n ∧ n ≤ 4611686018427387904) (hl : l.length ≤ 1048576) (k : Nat) (hk : 1048576 < k) : laws_markRegionS.f k l n = some (n + 5 * (l.length : Int), laws_markRegionS_list l n) := by
  have hL := laws_markRegionS_list_length l n
  have h := laws_markRegionS_go l n hn hl l.length k 0 l (by omega) (by omega) (by omega) (by omega) (by intro j hj; omega)
  unfold laws_markRegionS.f
  simpa using h

theorem laws_heldRegionS_go (l : List S41) (n : Int) (hn : 0 ≤ n ∧ n ≤ 4611686018427387904) (hl : l.length ≤ 1048576) (d : Nat) : ∀ (k i : Nat), i ≤ l.length → l.length - i = d → d < k →
    laws_heldRegionS.l0 k (laws_markRegionS_list l n) (n + 5 * (i : Int)) (i : Int) = some (n + 5 * (l.length : Int)) := by
  induction d with
  | zero =>
    intro k i hi hd hk
    obtain ⟨k, rfl⟩ : ∃ m, k = m + 1 := ⟨k - 1, by omega⟩
    have hL := laws_markRegionS_list_length l n
    simp only [laws_heldRegionS.l0]
    rw [if_neg (by omega), show i = l.length by omega]
  | succ d ih =>
    intro k i hi hd hk
    obtain ⟨k, rfl⟩ : ∃ m, k = m + 1 := ⟨k - 1, by omega⟩
    have hL := laws_markRegionS_list_length l n
    have hv : rd_T41 (laws_markRegionS_list l n) (i : Int) = laws_markRegionS_val (n + 5 * (i : Int)) := by
      rw [rdT_at _ i (by omega)]
      simp [laws_markRegionS_list]
    have hx := ih k (i + 1) (by omega) (by omega) (by omega)
    generalize hm : n + 5 * (i : Int) = m at *
    have hm2 : n + 5 * ((i + 1 : Nat) : Int) = m + 5 := by omega
    rw [hm2] at hx
    simp only [laws_heldRegionS.l0]
    rw [if_pos (by omega), if_pos (by omega), wnext i (by omega), hv]
    rw [w64 (x := m + 1) (by omega) (by omega)]
    rw [w64 (x := m + 1 + 1) (by omega) (by omega), show m + 1 + 1 = m + 2 by omega]
    rw [w64 (x := m + 2 + 1) (by omega) (by omega), show m + 2 + 1 = m + 3 by omega]
    rw [w64 (x := m + 3 + 1) (by omega) (by omega), show m + 3 + 1 = m + 4 by omega]
    rw [w64 (x := m + 4 + 1) (by omega) (by omega), show m + 4 + 1 = m + 5 by omega]
    simp only [laws_markRegionS_val, if_true]
    exact hx
theorem laws_heldRegionS_eq (l : List S41) (n : Int) (hn : 0 ≤ n ∧ n ≤ 4611686018427387904) (hl : l.length ≤ 1048576) (k : Nat) (hk : 1048576 < k) : laws_heldRegionS.f k (laws_markRegionS_list l n) n = some (n + 5 * (l.length : Int)) := by
  have h := laws_heldRegionS_go l n hn hl l.length k 0 (by omega) (by omega) (by omega)
  unfold laws_heldRegionS.f
  simpa using h

def okR (a b c d e base : Int) : Bool := decide (1 ≤ a ∧ a ≤ 4 ∧ base ≤ c ∧ c ≤ base + 16 ∧ base ≤ d ∧ d ≤ c ∧ 0 ≤ e ∧ e ≤ c - base ∧ (a = 1 → c = base) ∧ (a = 2 → 0 ≤ b ∧ b ≤ 3) ∧ (a ≠ 2 → b = -1))
theorem base_impl (i : Nat) (h1 : i < 12) : impl_RegionBase.f (i : Int) = some ((i : Int) * 16) := by
  unfold impl_RegionBase.f
  rw [if_neg (by omega), if_neg (by omega), w64 (by omega) (by omega)]
theorem base_spec (i : Nat) (h1 : i < 12) : spec_RegionBase.f (i : Int) = some ((i : Int) * 16) := by
  unfold spec_RegionBase.f
  rw [if_neg (by omega), if_neg (by omega), w64 (by omega) (by omega)]
theorem ok_impl (k i : Nat) (a b c d e : Int) (h1 : i < 12) : impl_Region_ok.f (k + 2) a b c d e (i : Int) = some (okR a b c d e ((i : Int) * 16)) := by
  unfold impl_Region_ok.f
  rw [base_impl i h1]
  simp only [Option.bind_some]
  generalize hb : (i : Int) * 16 = t
  rw [w64 (x := t + 16) (by omega) (by omega)]
  have bad : ∀ x, impl_Region_ok.j0 (k + 2) x true a b c d e = some false := fun x => by simp [impl_Region_ok.j0]
  by_cases g1 : a < 1
  · rw [if_pos g1, bad, okR, decide_eq_false (by omega)]
  by_cases g2 : a > 4
  · rw [if_neg g1, if_pos g2, bad, okR, decide_eq_false (by omega)]
  by_cases g3 : c < t
  · rw [if_neg g1, if_neg g2, if_pos g3, bad, okR, decide_eq_false (by omega)]
  by_cases g4 : c > t + 16
  · rw [if_neg g1, if_neg g2, if_neg g3, if_pos g4, bad, okR, decide_eq_false (by omega)]
  by_cases g5 : d < t
  · rw [if_neg g1, if_neg g2, if_neg g3, if_neg g4, if_pos g5, bad, okR, decide_eq_false (by omega)]
  by_cases g6 : d > c
  · rw [if_neg g1, if_neg g2, if_neg g3, if_neg g4, if_neg g5, if_pos g6, bad, okR, decide_eq_false (by omega)]
  by_cases g7 : e < 0
  · rw [if_neg g1, if_neg g2, if_neg g3, if_neg g4, if_neg g5, if_neg g6, if_pos g7, bad, okR, decide_eq_false (by omega)]
  rw [if_neg g1, if_neg g2, if_neg g3, if_neg g4, if_neg g5, if_neg g6, if_neg g7, w64 (x := c - t) (by omega) (by omega)]
  by_cases g8 : e > c - t
  · rw [decide_eq_true g8, bad, okR, decide_eq_false (by omega)]
  rw [decide_eq_false g8]
  simp only [impl_Region_ok.j0, Bool.false_eq_true, if_false]
  have fin : impl_Region_ok.j1 (k + 1) false a b c d e = some (decide ((a = 2 → 0 ≤ b ∧ b ≤ 3) ∧ (a ≠ 2 → b = -1))) := by
    simp only [impl_Region_ok.j1, Bool.false_eq_true, if_false]
    by_cases g : a = 2
    · rw [if_pos g]
      by_cases g' : b ≥ 0
      · rw [if_pos g']
        exact congrArg some (decide_eq_decide.2 (by omega))
      · rw [if_neg g']
        exact congrArg some (decide_eq_false (by omega)).symm
    · rw [if_neg g]
      by_cases g' : b = -1
      · rw [decide_eq_true (by omega), beq_iff_eq.2 g']
      · rw [decide_eq_false (by omega), beq_eq_false_iff_ne.2 g']
  by_cases g9 : a = 1
  · rw [if_pos g9]
    by_cases g10 : c = t
    · rw [bne_eq_false_iff_eq.2 g10, fin, okR]
      exact congrArg some (decide_eq_decide.2 (by omega))
    · rw [bne_iff_ne.2 g10, okR, decide_eq_false (by omega)]
      simp [impl_Region_ok.j1]
  · rw [if_neg g9, fin, okR]
    exact congrArg some (decide_eq_decide.2 (by omega))
theorem l1_hit (l : List S41) (i : Nat) (hi : i ≤ l.length) (hl : l.length ≤ 12) (a b c d f : Int) (hb : 0 ≤ b) (e : Nat) : ∀ j k : Nat, i - j = e → j ≤ i → (∃ m, j ≤ m ∧ m < i ∧ (l.getD m z41).f1 = b) → spec_TableOk.l1 (k + e + 1) l (i : Int) (j : Int) a b c d f = some false := by
  induction e with
  | zero =>
    intro j k he hj hm
    obtain ⟨m, h1, h2, _⟩ := hm
    omega
  | succ e ih =>
    intro j k he hj hm
    obtain ⟨m, h1, h2, h3⟩ := hm
    rw [show k + (e + 1) + 1 = (k + e + 1) + 1 by omega]
    simp only [spec_TableOk.l1]
    rw [if_pos (by omega), if_pos hb, if_pos (by omega), if_pos (by omega), wnext j (by omega)]
    have er : rd_T41 l (j : Int) = l.getD j z41 := rfl
    rw [er]
    by_cases g : (l.getD j z41).f1 = b
    · rw [if_pos g]
    · rw [if_neg g]
      refine ih (j + 1) k (by omega) (by omega) ⟨m, ?_, h2, h3⟩
      have : j ≠ m := fun hjm => g (hjm ▸ h3)
      omega
theorem l1_miss (l : List S41) (i : Nat) (hi : i ≤ l.length) (hl : l.length ≤ 12) (a b c d f : Int) (e : Nat) : ∀ j k : Nat, i - j = e → j ≤ i → (0 ≤ b → ∀ m, j ≤ m → m < i → (l.getD m z41).f1 ≠ b) → spec_TableOk.l1 (k + e + 1) l (i : Int) (j : Int) a b c d f = spec_TableOk.l0 k l ((i + 1 : Nat) : Int) := by
  induction e with
  | zero =>
    intro j k he hj hm
    simp only [Nat.add_zero, spec_TableOk.l1]
    rw [if_neg (by omega), wnext i (by omega)]
  | succ e ih =>
    intro j k he hj hm
    have next := ih (j + 1) k (by omega) (by omega) (fun hb m h1 h2 => hm hb m (by omega) h2)
    rw [show k + (e + 1) + 1 = (k + e + 1) + 1 by omega]
    simp only [spec_TableOk.l1]
    rw [if_pos (by omega), wnext j (by omega)]
    by_cases hb : b ≥ 0
    · rw [if_pos hb, if_pos (by omega), if_pos (by omega)]
      have er : rd_T41 l (j : Int) = l.getD j z41 := rfl
      rw [er, if_neg (hm hb j (Nat.le_refl _) (by omega))]
      exact next
    · rw [if_neg hb]
      exact next
theorem spec_row (l : List S41) (i k : Nat) (h0 : 1 ≤ i) (hi : i < l.length) (hl : l.length ≤ 12) :
    spec_TableOk.l0 (k + i + 4) l (i : Int) = (if okR l[i].f0 l[i].f1 l[i].f2 l[i].f3 l[i].f4 ((i : Int) * 16) = true then (if 0 ≤ l[i].f1 ∧ impl_seen l (i : Int) l[i].f1 = true then some false else spec_TableOk.l0 k l ((i + 1 : Nat) : Int)) else some false) := by
  rw [show k + i + 4 = (k + i + 3) + 1 by omega]
  simp only [spec_TableOk.l0]
  rw [if_pos (by omega), if_pos (by omega), base_spec i (by omega), T41_at l i hi]
  simp only [Option.bind_some]
  generalize hb : (i : Int) * 16 = t
  generalize l[i].f0 = a
  generalize l[i].f1 = b
  generalize l[i].f2 = c
  generalize l[i].f3 = d
  generalize l[i].f4 = e
  rw [w64 (x := t + 16) (by omega) (by omega)]
  have bad : spec_TableOk.j2 (k + i + 3) l (i : Int) t true a b c d e = some false := by
    simp [spec_TableOk.j2]
  by_cases g1 : a < 1
  · rw [if_pos g1, bad, okR, if_neg (by rw [decide_eq_false (by omega)]; simp)]
  by_cases g2 : a > 4
  · rw [if_neg g1, if_pos g2, bad, okR, if_neg (by rw [decide_eq_false (by omega)]; simp)]
  by_cases g3 : c < t
  · rw [if_neg g1, if_neg g2, if_pos g3, bad, okR, if_neg (by rw [decide_eq_false (by omega)]; simp)]
  by_cases g4 : c > t + 16
  · rw [if_neg g1, if_neg g2, if_neg g3, if_pos g4, bad, okR, if_neg (by rw [decide_eq_false (by omega)]; simp)]
  by_cases g5 : d < t
  · rw [if_neg g1, if_neg g2, if_neg g3, if_neg g4, if_pos g5, bad, okR, if_neg (by rw [decide_eq_false (by omega)]; simp)]
  by_cases g6 : d > c
  · rw [if_neg g1, if_neg g2, if_neg g3, if_neg g4, if_neg g5, if_pos g6, bad, okR, if_neg (by rw [decide_eq_false (by omega)]; simp)]
  by_cases g7 : e < 0
  · rw [if_neg g1, if_neg g2, if_neg g3, if_neg g4, if_neg g5, if_neg g6, if_pos g7, bad, okR, if_neg (by rw [decide_eq_false (by omega)]; simp)]
  rw [if_neg g1, if_neg g2, if_neg g3, if_neg g4, if_neg g5, if_neg g6, if_neg g7, w64 (x := c - t) (by omega) (by omega)]
  by_cases g8 : e > c - t
  · rw [decide_eq_true g8, bad, okR, if_neg (by rw [decide_eq_false (by omega)]; simp)]
  rw [decide_eq_false g8]
  simp only [spec_TableOk.j2, Bool.false_eq_true, if_false]
  have fin : spec_TableOk.j3 (k + i + 2) l (i : Int) false a b c d e = (if (a = 2 → 0 ≤ b ∧ b ≤ 3) ∧ (a ≠ 2 → b = -1) then (if 0 ≤ b ∧ impl_seen l (i : Int) b = true then some false else spec_TableOk.l0 k l ((i + 1 : Nat) : Int)) else some false) := by
    have bad4 : spec_TableOk.j4 (k + i + 1) l (i : Int) true a b c d e = some false := by
      simp [spec_TableOk.j4]
    simp only [spec_TableOk.j3, Bool.false_eq_true, if_false]
    by_cases g : (a = 2 ↔ b ≥ 0)
    · have e1 : ((a == 2) != decide (b ≥ 0)) = false := by
        by_cases ga : a = 2
        · rw [beq_iff_eq.2 ga, decide_eq_true (g.1 ga)]
          rfl
        · rw [beq_eq_false_iff_ne.2 ga, decide_eq_false (fun h => ga (g.2 h))]
          rfl
      rw [e1, if_neg (by simp)]
      by_cases g' : b < -1
      · rw [if_pos g', bad4, if_neg (by omega)]
      rw [if_neg g']
      by_cases g'' : b > 3
      · rw [decide_eq_true g'', bad4, if_neg (by omega)]
      · rw [decide_eq_false g'', if_pos (by omega)]
        simp only [spec_TableOk.j4, Bool.false_eq_true, if_false]
        by_cases hs : 0 ≤ b ∧ impl_seen l (i : Int) b = true
        · rw [if_pos hs]
          obtain ⟨m, m1, m2, m3, m4⟩ := (impl_seen_iff l (i : Int) b).1 hs.2
          have := l1_hit l i (by omega) hl a b c d e hs.1 (i - 1) 1 k rfl (by omega) ⟨m, m1, by omega, m4⟩
          rw [show k + (i - 1) + 1 = k + i by omega] at this
          exact this
        · rw [if_neg hs]
          have := l1_miss l i (by omega) hl a b c d e (i - 1) 1 k rfl (by omega) (fun hb0 m m1 m2 m3 => hs ⟨hb0, (impl_seen_iff l (i : Int) b).2 ⟨m, m1, by omega, by omega, m3⟩⟩)
          rw [show k + (i - 1) + 1 = k + i by omega] at this
          exact this
    · have e1 : ((a == 2) != decide (b ≥ 0)) = true := by
        by_cases ga : a = 2
        · rw [beq_iff_eq.2 ga, decide_eq_false (fun h => g ⟨fun _ => h, fun _ => ga⟩)]
          rfl
        · rw [beq_eq_false_iff_ne.2 ga]
          by_cases gb : b ≥ 0
          · rw [decide_eq_true gb]
            rfl
          · exact absurd ⟨fun h => absurd h ga, fun h => absurd h gb⟩ g
      rw [e1, if_pos rfl, bad4, if_neg (by omega)]
  by_cases g9 : a = 1
  · rw [if_pos g9]
    by_cases g10 : c = t
    · rw [bne_eq_false_iff_eq.2 g10, fin]
      by_cases g11 : (a = 2 → 0 ≤ b ∧ b ≤ 3) ∧ (a ≠ 2 → b = -1)
      · rw [if_pos g11, okR, if_pos (decide_eq_true (by omega))]
      · rw [if_neg g11, okR, if_neg (by rw [decide_eq_false (by omega)]; simp)]
    · rw [bne_iff_ne.2 g10, okR, if_neg (by rw [decide_eq_false (by omega)]; simp)]
      simp [spec_TableOk.j3]
  · rw [if_neg g9, fin]
    by_cases g11 : (a = 2 → 0 ≤ b ∧ b ≤ 3) ∧ (a ≠ 2 → b = -1)
    · rw [if_pos g11, okR, if_pos (decide_eq_true (by omega))]
    · rw [if_neg g11, okR, if_neg (by rw [decide_eq_false (by omega)]; simp)]
def tabOk (l : List S41) : Nat → Nat → Bool
  | 0, _ => true
  | d + 1, i => okR (l.getD i z41).f0 (l.getD i z41).f1 (l.getD i z41).f2 (l.getD i z41).f3 (l.getD i z41).f4 ((i : Int) * 16) && (!(decide (0 ≤ (l.getD i z41).f1) && impl_seen l (i : Int) (l.getD i z41).f1) && tabOk l d (i + 1))
theorem spec_go (l : List S41) (hl : l.length ≤ 12) (d : Nat) : ∀ (i K : Nat), 1 ≤ i → i + d = l.length → 20 * d < K → spec_TableOk.l0 K l (i : Int) = some (tabOk l d i) := by
  induction d with
  | zero =>
    intro i K h0 hd hK
    obtain ⟨K, rfl⟩ : ∃ m, K = m + 1 := ⟨K - 1, by omega⟩
    simp only [spec_TableOk.l0]
    rw [if_neg (by omega)]
    rfl
  | succ d ih =>
    intro i K h0 hd hK
    obtain ⟨k, rfl⟩ : ∃ m, K = m + i + 4 := ⟨K - i - 4, by omega⟩
    have hn := ih (i + 1) k (by omega) (by omega) (by omega)
    have er : l.getD i z41 = l[i] := by simp [List.getD, show i < l.length by omega]
    rw [spec_row l i k h0 (by omega) hl, hn, tabOk, er]
    cases okR l[i].f0 l[i].f1 l[i].f2 l[i].f3 l[i].f4 ((i : Int) * 16) with
    | false => rfl
    | true =>
      rw [if_pos rfl]
      by_cases hs : 0 ≤ l[i].f1 ∧ impl_seen l (i : Int) l[i].f1 = true
      · rw [if_pos hs, decide_eq_true hs.1, hs.2]
        rfl
      · rw [if_neg hs]
        by_cases hb : 0 ≤ l[i].f1
        · have : impl_seen l (i : Int) l[i].f1 = false := by
            rw [Bool.eq_false_iff]
            exact fun h => hs ⟨hb, h⟩
          rw [this]
          simp
        · rw [decide_eq_false hb]
          simp
theorem impl_go (l : List S41) (hl : l.length ≤ 12) (d : Nat) : ∀ (i K : Nat), 1 ≤ i → i + d = l.length → d + 3 < K → impl_TableOk.l0 K l l (l.length : Int) (i : Int) = some (tabOk l d i) := by
  induction d with
  | zero =>
    intro i K h0 hd hK
    obtain ⟨K, rfl⟩ : ∃ m, K = m + 1 := ⟨K - 1, by omega⟩
    simp only [impl_TableOk.l0]
    rw [if_neg (by omega)]
    rfl
  | succ d ih =>
    intro i K h0 hd hK
    obtain ⟨k, rfl⟩ : ∃ m, K = m + 1 := ⟨K - 1, by omega⟩
    have hn := ih (i + 1) k (by omega) (by omega) (by omega)
    have ho : ∀ a b c d e, impl_Region_ok.f k a b c d e (i : Int) = some (okR a b c d e ((i : Int) * 16)) := by
      obtain ⟨m, rfl⟩ : ∃ m, k = m + 2 := ⟨k - 2, by omega⟩
      exact fun a b c d e => ok_impl m i a b c d e (by omega)
    have er : l.getD i z41 = l[i] := by simp [List.getD, show i < l.length by omega]
    simp only [impl_TableOk.l0]
    rw [if_pos (by omega), if_pos (by omega), if_pos (by omega), if_neg (by omega), T41_at l i (by omega), ho, wnext i (by omega), hn, tabOk, er]
    simp only [Option.bind_some]
    cases okR l[i].f0 l[i].f1 l[i].f2 l[i].f3 l[i].f4 ((i : Int) * 16) with
    | false => rfl
    | true =>
      rw [if_pos rfl]
      by_cases hb : l[i].f1 ≥ 0
      · rw [if_pos hb, decide_eq_true hb]
        simp only [impl_seenIn.f, Option.bind_some]
        cases impl_seen l (i : Int) l[i].f1 <;> simp
      · rw [if_neg hb, decide_eq_false hb]
        simp
def edgeB (l : List S41) : Bool := !(((rd_T41 l 0).f0) == 0) || (!(((rd_T41 l 0).f1) == (-1)) || (!(((rd_T41 l 0).f2) == 0) || (!(((rd_T41 l 0).f3) == 0) || (!(((rd_T41 l 0).f4) == 0)))))
def tableOkB (l : List S41) : Bool := decide (2 ≤ l.length ∧ l.length ≤ 12) && (!edgeB l && tabOk l (l.length - 1) 1)
theorem table_spec (l : List S41) (K : Nat) (hK : 1000 < K) : spec_TableOk.f K l = some (tableOkB l) := by
  obtain ⟨K, rfl⟩ : ∃ m, K = m + 1 := ⟨K - 1, by omega⟩
  have bad : spec_TableOk.j0 (K + 1) l true = some false := by simp [spec_TableOk.j0]
  unfold spec_TableOk.f tableOkB
  by_cases h1 : (l.length : Int) < 2
  · rw [if_pos h1, bad, decide_eq_false (by omega)]
    rfl
  by_cases h2 : (l.length : Int) > 12
  · rw [if_neg h1, if_pos h2, bad, decide_eq_false (by omega)]
    rfl
  rw [if_neg h1, if_neg h2, if_pos (by omega), decide_eq_true (by omega)]
  show spec_TableOk.j0 (K + 1) l (edgeB l) = _
  cases edgeB l with
  | true => exact bad
  | false =>
    simp only [spec_TableOk.j0, Bool.false_eq_true, if_false]
    have := spec_go l (by omega) (l.length - 1) 1 K (by omega) (by omega) (by omega)
    exact this
theorem table_impl (l : List S41) (K : Nat) (hK : 1000 < K) : impl_TableOk.f K l = some (tableOkB l) := by
  obtain ⟨K, rfl⟩ : ∃ m, K = m + 1 := ⟨K - 1, by omega⟩
  have bad : impl_TableOk.j0 (K + 1) l true = some false := by simp [impl_TableOk.j0]
  unfold impl_TableOk.f tableOkB
  by_cases h1 : (l.length : Int) < 2
  · rw [if_pos h1, bad, decide_eq_false (by omega)]
    rfl
  by_cases h2 : (l.length : Int) > 12
  · rw [if_neg h1, if_pos h2, bad, decide_eq_false (by omega)]
    rfl
  rw [if_neg h1, if_neg h2, if_pos (by omega), decide_eq_true (by omega)]
  show impl_TableOk.j0 (K + 1) l (edgeB l) = _
  cases edgeB l with
  | true => exact bad
  | false =>
    simp only [impl_TableOk.j0, Bool.false_eq_true, if_false]
    obtain ⟨K, rfl⟩ : ∃ m, K = m + 1 := ⟨K - 1, by omega⟩
    simp only [impl_TableOk.l0]
    rw [if_pos (by omega), if_pos (by omega), if_pos (by omega), if_pos trivial]
    have := impl_go l (by omega) (l.length - 1) 1 K (by omega) (by omega) (by omega)
    rw [show wrap64 (0 + 1) = ((1 : Nat) : Int) from (w64 (by omega) (by omega)).trans rfl, this]
    rfl

def hasB (l : List S41) (r : Int) : Bool := tableOkB l && decide (1 ≤ r ∧ r < (l.length : Int))
theorem table_len (l : List S41) (h : tableOkB l = true) : 2 ≤ l.length ∧ l.length ≤ 12 := by
  unfold tableOkB at h
  exact of_decide_eq_true (Bool.and_eq_true_iff.1 h).1
theorem rdT_set (l : List S41) (r : Int) (h0 : 0 ≤ r) (h1 : r < (l.length : Int)) (v : S41) : rd_T41 (l.set r.toNat v) r = v := by
  have : r.toNat < l.length := by omega
  simp [rd_T41, List.getD, this]

def closeOf (l : List S41) (r : Int) : List S41 × Bool := if hasB l r = true ∧ (rd_T41 l r).f0 = 2 then (l.set r.toNat ⟨3, -1, (rd_T41 l r).f2, (rd_T41 l r).f3, (rd_T41 l r).f4⟩, true) else ([], false)
theorem close_spec (l : List S41) (r : Int) (K : Nat) (hK : 1000 < K) : spec_TableClose.f K l r = some (closeOf l r) := by
  unfold spec_TableClose.f closeOf hasB
  rw [table_spec l K hK]
  simp only [Option.bind_some]
  cases ht : tableOkB l with
  | false => rfl
  | true =>
    have hl := table_len l ht
    rw [if_pos rfl]
    by_cases h1 : r < 1
    · rw [if_pos h1, decide_eq_false (by omega)]
      rfl
    by_cases h2 : r ≥ (l.length : Int)
    · rw [if_neg h1, if_pos h2, decide_eq_false (by omega)]
      rfl
    rw [if_neg h1, if_neg h2, if_pos (by omega), if_pos (by omega), decide_eq_true (by omega)]
    by_cases h3 : (rd_T41 l r).f0 = 2
    · have hc : spec_l4Copy.f l = some l := by
        unfold spec_l4Copy.f
        simp only [Option.bind_some]
        rw [if_pos (by simp; omega), List.nil_append]
      rw [if_pos h3, hc, if_pos ⟨rfl, h3⟩]
      simp only [Option.bind_some]
      rw [if_pos (by omega)]
    · rw [if_neg h3, if_neg (fun h => h3 h.2)]
theorem close_impl (l : List S41) (r : Int) (K : Nat) (hK : 1000 < K) : impl_TableClose.f K l r = some (closeOf l r) := by
  have hh : impl_hasRegion.f K l r = some (hasB l r) := by
    unfold impl_hasRegion.f hasB
    rw [table_impl l K hK]
    simp only [Option.bind_some]
    cases tableOkB l with
    | false => rfl
    | true =>
      rw [if_pos rfl]
      by_cases h1 : r ≥ 1
      · rw [if_pos h1]
        exact congrArg some (decide_eq_decide.2 (by omega))
      · rw [if_neg h1, decide_eq_false (by omega)]
        rfl
  unfold impl_TableClose.f closeOf
  rw [hh]
  simp only [Option.bind_some]
  cases hb : hasB l r with
  | false => rfl
  | true =>
    unfold hasB at hb
    obtain ⟨ht, hr⟩ := Bool.and_eq_true_iff.1 hb
    have hr := of_decide_eq_true hr
    have hl := table_len l ht
    rw [if_pos rfl, if_pos (by omega), if_pos (by omega)]
    by_cases h3 : (rd_T41 l r).f0 = 2
    · have hc : impl_Region_34.f l = some l := by
        unfold impl_Region_34.f
        rw [if_pos (by omega)]
      rw [if_pos h3, hc, if_pos ⟨rfl, h3⟩]
      simp only [Option.bind_some]
      rw [if_pos (by omega), rdT_set l r (by omega) (by omega), List.set_set]
    · rw [if_neg h3, if_neg (fun h => h3 h.2)]
theorem close_length (l : List S41) (r : Int) : (closeOf l r).1.length ≤ l.length := by
  unfold closeOf
  split <;> simp

def ixF (p : S41 → Bool) (l : List S41) (i : Nat) : Int := Lib.idxByFrom (fun _ y => p y) default (l.drop i) i
theorem ixF_end (p : S41 → Bool) (l : List S41) (i : Nat) (h : l.length ≤ i) : ixF p l i = -1 := by
  unfold ixF
  rw [List.drop_eq_nil_of_le h]
  rfl
theorem drop_rd (l : List S41) (i : Nat) (h : i < l.length) : l.drop i = rd_T41 l (i : Int) :: l.drop (i + 1) := by
  rw [List.drop_eq_getElem_cons h]
  congr 1
  show l[i] = l.getD i z41
  simp [List.getD, h]
theorem ixF_hit (p : S41 → Bool) (l : List S41) (i : Nat) (h : i < l.length) (hp : p (rd_T41 l (i : Int)) = true) : ixF p l i = i := by
  unfold ixF
  rw [drop_rd l i h, Lib.idxByFrom]
  show (if p (rd_T41 l (i : Int)) = true then _ else _) = _
  rw [if_pos hp]
theorem ixF_miss (p : S41 → Bool) (l : List S41) (i : Nat) (h : i < l.length) (hp : p (rd_T41 l (i : Int)) = false) : ixF p l i = ixF p l (i + 1) := by
  unfold ixF
  rw [drop_rd l i h, Lib.idxByFrom]
  show (if p (rd_T41 l (i : Int)) = true then _ else _) = _
  rw [hp]
  rfl
theorem idxB_eq (p : S41 → Bool) (l : List S41) (h : 0 < l.length) (hp : p (rd_T41 l 0) = false) : idxB p l = ixF p l 1 := by
  show ixF p l 0 = _
  exact ixF_miss p l 0 h hp
theorem ixF_in (p : S41 → Bool) (l : List S41) (d : Nat) : ∀ i : Nat, i + d = l.length → ixF p l i = -1 ∨ ((i : Int) ≤ ixF p l i ∧ ixF p l i < (l.length : Int) ∧ p (rd_T41 l (ixF p l i)) = true) := by
  induction d with
  | zero =>
    intro i h
    exact Or.inl (ixF_end p l i (by omega))
  | succ d ih =>
    intro i h
    cases hp : p (rd_T41 l (i : Int)) with
    | true =>
      rw [ixF_hit p l i (by omega) hp]
      exact Or.inr ⟨by omega, by omega, hp⟩
    | false =>
      rw [ixF_miss p l i (by omega) hp]
      rcases ih (i + 1) (by omega) with h1 | ⟨h1, h2, h3⟩
      · exact Or.inl h1
      · exact Or.inr ⟨by omega, h2, h3⟩
def ownP (a : Int) : S41 → Bool := fun x => x.f0 == 2 && x.f1 == a
def freeP : S41 → Bool := fun x => x.f0 == 1
theorem edge_no (l : List S41) (h : tableOkB l = true) : (rd_T41 l 0).f0 = 0 := by
  unfold tableOkB at h
  obtain ⟨_, h⟩ := Bool.and_eq_true_iff.1 h
  obtain ⟨h, _⟩ := Bool.and_eq_true_iff.1 h
  unfold edgeB at h
  by_cases g : (rd_T41 l 0).f0 = 0
  · exact g
  · rw [beq_eq_false_iff_ne.2 g] at h
    simp at h
theorem own_go (l : List S41) (hl : l.length ≤ 12) (a : Int) (d : Nat) : ∀ (i K : Nat), 1 ≤ i → i + d = l.length → d < K → spec_l4Own.l0 K l a (i : Int) = some (ixF (ownP a) l i) := by
  induction d with
  | zero =>
    intro i K h0 hd hK
    obtain ⟨K, rfl⟩ : ∃ m, K = m + 1 := ⟨K - 1, by omega⟩
    simp only [spec_l4Own.l0]
    rw [if_neg (by omega), ixF_end _ _ _ (by omega)]
  | succ d ih =>
    intro i K h0 hd hK
    obtain ⟨K, rfl⟩ : ∃ m, K = m + 1 := ⟨K - 1, by omega⟩
    have hn := ih (i + 1) K (by omega) (by omega) (by omega)
    simp only [spec_l4Own.l0]
    rw [if_pos (by omega), if_pos (by omega), wnext i (by omega), hn]
    by_cases g : (rd_T41 l (i : Int)).f0 = 2
    · rw [if_pos g]
      by_cases g2 : (rd_T41 l (i : Int)).f1 = a
      · rw [if_pos g2, ixF_hit _ _ _ (by omega) (by simp [ownP, g, g2])]
      · rw [if_neg g2, ← ixF_miss _ _ _ (by omega) (by simp [ownP, g2])]
    · rw [if_neg g, ← ixF_miss _ _ _ (by omega) (by simp [ownP, g])]
def ownOf (l : List S41) (a : Int) : Int := ixF (ownP a) l 1
theorem own_spec (l : List S41) (h : tableOkB l = true) (a : Int) (K : Nat) (hK : 1000 < K) : spec_l4Own.f K l a = some (ownOf l a) := by
  have hl := table_len l h
  exact own_go l hl.2 a (l.length - 1) 1 K (by omega) (by omega) (by omega)
theorem own_impl (l : List S41) (h : tableOkB l = true) (a : Int) : impl_own.f l a = some (ownOf l a) := by
  have hl := table_len l h
  unfold impl_own.f
  rw [if_pos (by omega)]
  exact congrArg some (idxB_eq (ownP a) l (by omega) (by simp [ownP, edge_no l h]))
theorem own_in (l : List S41) (h : tableOkB l = true) (a : Int) : ownOf l a = -1 ∨ (1 ≤ ownOf l a ∧ ownOf l a < (l.length : Int) ∧ (rd_T41 l (ownOf l a)).f0 = 2) := by
  have hl := table_len l h
  rcases ixF_in (ownP a) l (l.length - 1) 1 (by omega) with h1 | ⟨h1, h2, h3⟩
  · exact Or.inl h1
  · exact Or.inr ⟨h1, h2, by simp [ownP] at h3; exact h3.1⟩
def takeAt (l : List S41) (a r : Int) : List S41 × Int × Bool := if r < 0 then ([], 0, false) else (l.set r.toNat ⟨2, a, r * 16, r * 16, 0⟩, r, true)
theorem copy_spec (l : List S41) (h : l.length ≤ 12) : spec_l4Copy.f l = some l := by
  unfold spec_l4Copy.f
  simp only [Option.bind_some]
  rw [if_pos (by simp; omega), List.nil_append]
theorem take_go (l : List S41) (hl : l.length ≤ 12) (a : Int) (d : Nat) : ∀ (i K : Nat), 1 ≤ i → i + d = l.length → d < K → spec_TableTake.l0 K l a (i : Int) = some (takeAt l a (ixF freeP l i)) := by
  induction d with
  | zero =>
    intro i K h0 hd hK
    obtain ⟨K, rfl⟩ : ∃ m, K = m + 1 := ⟨K - 1, by omega⟩
    simp only [spec_TableTake.l0]
    rw [if_neg (by omega), ixF_end _ _ _ (by omega)]
    rfl
  | succ d ih =>
    intro i K h0 hd hK
    obtain ⟨K, rfl⟩ : ∃ m, K = m + 1 := ⟨K - 1, by omega⟩
    have hn := ih (i + 1) K (by omega) (by omega) (by omega)
    simp only [spec_TableTake.l0]
    rw [if_pos (by omega), if_pos (by omega), wnext i (by omega), hn]
    by_cases g : (rd_T41 l (i : Int)).f0 = 1
    · rw [if_pos g, copy_spec l hl, base_spec i (by omega), ixF_hit _ _ _ (by omega) (by simp [freeP, g])]
      simp only [Option.bind_some]
      rw [if_pos (by omega), takeAt, if_neg (by omega)]
    · rw [if_neg g, ← ixF_miss _ _ _ (by omega) (by simp [freeP, g])]
def takeOf (l : List S41) (a : Int) : List S41 × Int × Bool := if tableOkB l = true ∧ 0 ≤ a ∧ a ≤ 3 ∧ ownOf l a < 0 then takeAt l a (ixF freeP l 1) else ([], 0, false)
theorem take_spec (l : List S41) (a : Int) (K : Nat) (hK : 1001 < K) : spec_TableTake.f K l a = some (takeOf l a) := by
  have bad : spec_TableTake.j0 K l a true = some ([], 0, false) := by
    obtain ⟨K, rfl⟩ : ∃ m, K = m + 1 := ⟨K - 1, by omega⟩
    simp [spec_TableTake.j0]
  unfold spec_TableTake.f takeOf
  rw [table_spec l K (by omega), bad]
  simp only [Option.bind_some]
  cases ht : tableOkB l with
  | false => simp
  | true =>
    have hl := table_len l ht
    rw [if_pos rfl]
    by_cases h1 : a < 0
    · rw [if_pos h1, if_neg (by omega)]
    by_cases h2 : a > 3
    · rw [if_neg h1, if_pos h2, if_neg (by omega)]
    rw [if_neg h1, if_neg h2, own_spec l ht a K (by omega)]
    simp only [Option.bind_some]
    by_cases h3 : ownOf l a ≥ 0
    · rw [decide_eq_true h3, bad, if_neg (by omega)]
    · rw [decide_eq_false h3, if_pos ⟨by trivial, by omega, by omega, by omega⟩]
      obtain ⟨K, rfl⟩ : ∃ m, K = m + 1 := ⟨K - 1, by omega⟩
      simp only [spec_TableTake.j0, Bool.false_eq_true, if_false]
      exact take_go l hl.2 a (l.length - 1) 1 K (by omega) (by omega) (by omega)
theorem take_impl (l : List S41) (a : Int) (K : Nat) (hK : 1001 < K) : impl_TableTake.f K l a = some (takeOf l a) := by
  have bad : impl_TableTake.j0 K l a true = some ([], 0, false) := by
    obtain ⟨K, rfl⟩ : ∃ m, K = m + 1 := ⟨K - 1, by omega⟩
    simp [impl_TableTake.j0]
  unfold impl_TableTake.f takeOf
  rw [table_impl l K (by omega), bad]
  simp only [Option.bind_some]
  cases ht : tableOkB l with
  | false => simp
  | true =>
    have hl := table_len l ht
    rw [if_pos rfl]
    by_cases h1 : a < 0
    · rw [if_pos h1, if_neg (by omega)]
    by_cases h2 : a > 3
    · rw [if_neg h1, if_pos h2, if_neg (by omega)]
    rw [if_neg h1, if_neg h2, own_impl l ht a]
    simp only [Option.bind_some]
    by_cases h3 : ownOf l a ≥ 0
    · rw [decide_eq_true h3, bad, if_neg (by omega)]
    · rw [decide_eq_false h3, if_pos ⟨by trivial, by omega, by omega, by omega⟩]
      obtain ⟨K, rfl⟩ : ∃ m, K = m + 1 := ⟨K - 1, by omega⟩
      simp only [impl_TableTake.j0, Bool.false_eq_true, if_false]
      have hi : impl_Region_37.f l = some (ixF freeP l 1) := by
        unfold impl_Region_37.f
        rw [if_pos (by omega)]
        exact congrArg some (idxB_eq freeP l (by omega) (by simp [freeP, edge_no l ht]))
      rw [hi]
      simp only [Option.bind_some]
      rcases ixF_in freeP l (l.length - 1) 1 (by omega) with h4 | ⟨h4, h5, h6⟩
      · rw [h4, takeAt, if_pos (by omega), if_pos (by omega)]
      · generalize ixF freeP l 1 = r at h4 h5 h6 ⊢
        rw [takeAt, if_neg (by omega), if_neg (by omega)]
        have hc : impl_Region_34.f l = some l := by
          unfold impl_Region_34.f
          rw [if_pos (by omega)]
        obtain ⟨i, rfl⟩ : ∃ i : Nat, r = (i : Int) := ⟨r.toNat, by omega⟩
        have hf : impl_free.f (i : Int) = some (1, -1, (i : Int) * 16, (i : Int) * 16, 0) := by
          unfold impl_free.f
          rw [base_impl i (by omega)]
          rfl
        rw [hc, hf]
        simp only [Option.bind_some]
        rw [if_pos (by omega), if_pos (by omega)]
        have e1 : ∀ v, rd_T41 (l.set (i : Int).toNat v) (i : Int) = v := fun v => rdT_set l (i : Int) (by omega) (by omega) v
        rw [e1]
        simp only [List.set_set]
        rw [e1]
theorem take_length (l : List S41) (a : Int) : (takeOf l a).1.length ≤ l.length := by
  unfold takeOf takeAt
  split
  · split <;> simp
  · simp

def rbOf (r : Int) : Int := if r < 0 then 0 else if r ≥ 12 then 0 else wrap64 (r * 16)
theorem rb_spec (r : Int) : spec_RegionBase.f r = some (rbOf r) := by
  unfold spec_RegionBase.f rbOf
  by_cases h1 : r < 0
  · rw [if_pos h1, if_pos h1]
  · by_cases h2 : r ≥ 12
    · rw [if_neg h1, if_neg h1, if_pos h2, if_pos h2]
    · rw [if_neg h1, if_neg h1, if_neg h2, if_neg h2]
theorem rb_impl (r : Int) : impl_RegionBase.f r = some (rbOf r) := by
  unfold impl_RegionBase.f rbOf
  by_cases h1 : r < 0
  · rw [if_pos h1, if_pos h1]
  · by_cases h2 : r ≥ 12
    · rw [if_neg h1, if_neg h1, if_pos h2, if_pos h2]
    · rw [if_neg h1, if_neg h1, if_neg h2, if_neg h2]
def thenOf (x : List S41 × Int × Bool) : List S41 × Int × Bool := if x.2.2 = true then (x.1, rbOf x.2.1, true) else ([], 0, false)
def fitsAt (l : List S41) (r s : Int) : Prop := wrap64 ((rd_T41 l r).f2 + s) ≤ wrap64 (rbOf r + 16)
instance (l : List S41) (r s : Int) : Decidable (fitsAt l r s) := by unfold fitsAt; infer_instance
def roomIn (l : List S41) (a s : Int) : List S41 × Int × Bool :=
  if 0 ≤ ownOf l a then (if fitsAt l (ownOf l a) s then (l, (rd_T41 l (ownOf l a)).f2, true) else thenOf (takeOf (closeOf l (ownOf l a)).1 a)) else thenOf (takeOf l a)
def roomOf (l : List S41) (a s : Int) : List S41 × Int × Bool := if tableOkB l = true ∧ 0 ≤ a ∧ a ≤ 3 ∧ 1 ≤ s ∧ s ≤ 16 then roomIn l a s else ([], 0, false)
theorem then_spec (l : List S41) (a : Int) (K : Nat) (hK : 1002 < K) : spec_TableRoom.j2 K a l = some (thenOf (takeOf l a)) := by
  obtain ⟨K, rfl⟩ : ∃ m, K = m + 1 := ⟨K - 1, by omega⟩
  simp only [spec_TableRoom.j2]
  rw [take_spec l a K (by omega)]
  simp only [Option.bind_some]
  generalize takeOf l a = x
  obtain ⟨x1, x2, x3⟩ := x
  simp only [rb_spec, Option.bind_some, thenOf]
  cases x3 <;> rfl
theorem then_impl (l : List S41) (a : Int) (K : Nat) (hK : 1001 < K) : ((impl_TableTake.f K l a).bind fun bt => (if bt.2.2 = true then ((impl_RegionBase.f bt.2.1).bind fun t => (some (bt.1, t, true))) else (some (([] : List (S41)), 0, false)))) = some (thenOf (takeOf l a)) := by
  rw [take_impl l a K (by omega)]
  simp only [Option.bind_some]
  generalize takeOf l a = x
  obtain ⟨x1, x2, x3⟩ := x
  simp only [rb_impl, Option.bind_some, thenOf]
  cases x3 <;> rfl
theorem room_spec (l : List S41) (a s : Int) (K : Nat) (hK : 1005 < K) : spec_TableRoom.f K l a s = some (roomOf l a s) := by
  have bad : spec_TableRoom.j0 K l a s true = some ([], 0, false) := by
    obtain ⟨K, rfl⟩ : ∃ m, K = m + 1 := ⟨K - 1, by omega⟩
    simp [spec_TableRoom.j0]
  unfold spec_TableRoom.f roomOf
  rw [table_spec l K (by omega), bad]
  simp only [Option.bind_some]
  cases ht : tableOkB l with
  | false => simp
  | true =>
    have hl := table_len l ht
    rw [if_pos rfl]
    by_cases h1 : a < 0
    · rw [if_pos h1, if_neg (by omega)]
    by_cases h2 : a > 3
    · rw [if_neg h1, if_pos h2, if_neg (by omega)]
    by_cases h3 : s < 1
    · rw [if_neg h1, if_neg h2, if_pos h3, if_neg (by omega)]
    rw [if_neg h1, if_neg h2, if_neg h3]
    by_cases h4 : s > 16
    · rw [decide_eq_true h4, bad, if_neg (by omega)]
    rw [decide_eq_false h4, if_pos ⟨by trivial, by omega, by omega, by omega, by omega⟩]
    obtain ⟨K, rfl⟩ : ∃ m, K = m + 2 := ⟨K - 2, by omega⟩
    simp only [spec_TableRoom.j0, Bool.false_eq_true, if_false]
    rw [own_spec l ht a _ (by omega)]
    simp only [Option.bind_some]
    have hc := copy_spec l hl.2
    unfold roomIn
    rcases own_in l ht a with h5 | ⟨h5, h6, h7⟩
    · rw [if_neg (by omega), if_neg (by omega)]
      simp only [spec_TableRoom.j1, Bool.false_eq_true, if_false]
      rw [hc]
      simp only [Option.bind_some]
      rw [if_neg (by omega)]
      exact then_spec l a K (by omega)
    · rw [if_pos (by omega), if_pos (by omega), if_pos (by omega), if_pos (by omega), rb_spec]
      simp only [Option.bind_some]
      by_cases h8 : fitsAt l (ownOf l a) s
      · rw [if_pos h8]
        unfold fitsAt at h8
        rw [decide_eq_true h8]
        simp only [spec_TableRoom.j1, if_true]
        rw [hc]
        simp only [Option.bind_some]
        rw [if_pos (by omega), if_pos (by omega)]
      · rw [if_neg h8]
        unfold fitsAt at h8
        rw [decide_eq_false h8]
        simp only [spec_TableRoom.j1, Bool.false_eq_true, if_false]
        rw [hc]
        simp only [Option.bind_some]
        rw [if_pos (by omega), close_spec l _ K (by omega)]
        simp only [Option.bind_some]
        exact then_spec _ a K (by omega)
theorem room_impl (l : List S41) (a s : Int) (K : Nat) (hK : 1005 < K) : impl_TableRoom.f K l a s = some (roomOf l a s) := by
  unfold impl_TableRoom.f roomOf
  rw [table_impl l K (by omega)]
  simp only [Option.bind_some]
  cases ht : tableOkB l with
  | false => simp
  | true =>
    have hl := table_len l ht
    rw [if_pos rfl]
    by_cases h1 : a < 0
    · rw [if_pos h1, if_neg (by omega)]
    by_cases h2 : a > 3
    · rw [if_neg h1, if_pos h2, if_neg (by omega)]
    by_cases h3 : s < 1
    · rw [if_neg h1, if_neg h2, if_pos h3, if_neg (by omega)]
    by_cases h4 : s > 16
    · rw [if_neg h1, if_neg h2, if_neg h3, if_pos h4, if_neg (by omega)]
    rw [if_neg h1, if_neg h2, if_neg h3, if_neg h4, if_pos ⟨by trivial, by omega, by omega, by omega, by omega⟩]
    rw [own_impl l ht a]
    simp only [Option.bind_some]
    unfold roomIn
    rcases own_in l ht a with h5 | ⟨h5, h6, h7⟩
    · rw [if_neg (by omega), if_neg (by omega)]
      exact then_impl l a K (by omega)
    · rw [if_pos (by omega), if_pos (by omega), if_pos (by omega), if_pos (by omega), rb_impl]
      simp only [Option.bind_some]
      by_cases h8 : fitsAt l (ownOf l a) s
      · rw [if_pos h8]
        unfold fitsAt at h8
        have hc : impl_Region_34.f l = some l := by
          unfold impl_Region_34.f
          rw [if_pos (by omega)]
        rw [if_pos h8, hc]
        rfl
      · rw [if_neg h8]
        unfold fitsAt at h8
        rw [if_neg h8, close_impl l _ K (by omega)]
        simp only [Option.bind_some]
        exact then_impl _ a K (by omega)
theorem room_length (l : List S41) (a s : Int) : (roomOf l a s).1.length ≤ l.length := by
  have ht : ∀ x : List S41 × Int × Bool, (thenOf x).1.length ≤ x.1.length := by
    intro x
    unfold thenOf
    split <;> simp
  unfold roomOf roomIn
  split
  · split
    · split
      · exact Nat.le_refl _
      · exact Nat.le_trans (ht _) (Nat.le_trans (take_length _ _) (close_length _ _))
    · exact Nat.le_trans (ht _) (take_length _ _)
  · simp
theorem FnExactTableRoom {Q : S46 → Prop} (l : List S46) (a b : Int) (hg : l.length ≤ maxLen ∧ ∀ x ∈ l, Q x) (_ : (Lit.int .i64 a).wf = true) (_ : (Lit.int .i64 b).wf = true) : ∃ k, laws_FnExactTableRoom.f k l a b = some true := by
  obtain ⟨K, hK⟩ : ∃ K, 1048576 < K := ⟨1048577, by omega⟩
  refine ⟨K + 3, ?_⟩
  obtain ⟨z, hz, hz2⟩ := szR_eq l hg.1
  by_cases hz0 : z < 0
  · unfold laws_FnExactTableRoom.f
    exact sb hz (st hz0 rfl)
  have hl' := hz2.resolve_left hz0
  have hl : (l.map cvR).length ≤ 1048576 := by simpa using hl'
  have hr : (roomOf (l.map cvR) a b).1.length ≤ 1048576 := Nat.le_trans (room_length _ _ _) hl
  have ho : ∀ K, 1048576 < K → laws_toRegionS.f K l = some (l.map cvR) := fun K hK => laws_toRegionS_eq l hl' K hK
  have hS : ∀ K, 1048576 < K → spec_TableRoom.f K (l.map cvR) a b = some (roomOf (l.map cvR) a b) := fun K hK => room_spec _ _ _ K (by omega)
  have hI : ∀ K, 1048576 < K → impl_TableRoom.f K (l.map cvR) a b = some (roomOf (l.map cvR) a b) := fun K hK => room_impl _ _ _ K (by omega)
  unfold laws_FnExactTableRoom.f
  repeat (first
    | (with_reducible refine st rfl ?_)
    | (with_reducible refine sf (neg_len _) ?_)
    | (with_reducible refine sf (bne_no _) ?_)
    | (with_reducible refine sf ff ?_)
    | (with_reducible refine sf ntt ?_)
    | (with_reducible refine sf hz0 ?_)
    | ((with_reducible refine sb (hz) ?_); try dsimp only)
    | ((with_reducible refine sb (ho _ ?_) ?_); omega; try dsimp only)
    | ((with_reducible refine sb (hS _ ?_) ?_); omega; try dsimp only)
    | ((with_reducible refine sb (hI _ ?_) ?_); omega; try dsimp only)
    | ((with_reducible refine sb (laws_eqRegionS_self _ hl _ ?_) ?_); omega; try dsimp only)
    | ((with_reducible refine sb (laws_eqRegionS_self _ hr _ ?_) ?_); omega; try dsimp only)
    | ((with_reducible refine sb (laws_markRegionS_eq _ 1 ?_ hl _ ?_) ?_); omega; omega; try dsimp only)
    | ((with_reducible refine sb (laws_markRegionS_eq _ 1 ?_ hr _ ?_) ?_); omega; omega; try dsimp only)
    | ((with_reducible refine sb (laws_heldRegionS_eq _ 1 ?_ hr _ ?_) ?_); omega; omega; try dsimp only)
    | rw [laws_FnExactTableRoom.j0]
    | rw [laws_FnExactTableRoom.j1]
    | rw [laws_FnExactTableRoom.j2]
    | (with_reducible rfl))

end Go.Proofs.Ytfonbakjfajbcaa.Pure
