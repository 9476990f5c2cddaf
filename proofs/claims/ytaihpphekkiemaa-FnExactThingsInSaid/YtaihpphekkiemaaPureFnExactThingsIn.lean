/- ThingsIn of the program answers as the reference does, at every slice of ints of at most 2^20 elements and every two ints, leaves its argument alone, and answers with new memory each time. No condition. -/
import Derived.Test.YtaihpphekkiemaaQFnExactThingsInx7
namespace Go.Proofs.Ytaihpphekkiemaa.Pure
open Go.RowKit Go.Proofs.Ytaihpphekkiemaa.QFnExactThingsIn Go.Proofs.YtaihpphekkiemaaW.PrintWords Go.Proofs.YtaihpphekkiemaaW.PrintLast Go.Proofs.YtaihpphekkiemaaW.PrintMore
set_option linter.unusedVariables false
set_option linter.unusedSimpArgs false

theorem w64 {x : Int} (h0 : -9223372036854775808 ≤ x) (h1 : x ≤ 9223372036854775807) : wrap64 x = x := by
  unfold wrap64
  omega
theorem wnext (i : Nat) (h : i < 9223372036854775807) : wrap64 ((i : Int) + 1) = ((i + 1 : Nat) : Int) := by
  unfold wrap64
  omega
theorem rdOf_at {α : Type} (d : α) (l : List α) (i : Nat) (h : i < l.length) : rdOf d l (i : Int) = l[i] := by
  simp [rdOf, List.getD, h]
theorem rd_at (l : List Int) (i : Nat) (h : i < l.length) : rd l (i : Int) = l[i] := by
  simp [rd, List.getD, h]
theorem set_step {α : Type} (l m : List α) (i : Nat) (v : α) (hl : l.length = m.length) (hi : i < m.length) (hv : m[i]? = some v)
    (hp : ∀ j, j < i → l[j]? = m[j]?) : (l.set i v).length = m.length ∧ ∀ j, j < i + 1 → (l.set i v)[j]? = m[j]? := by
  refine ⟨by simp [hl], fun j hj => ?_⟩
  rw [List.getElem?_set]
  by_cases e : i = j
  · subst e
    rw [if_pos rfl, if_pos (by omega), hv]
  · rw [if_neg e]
    exact hp j (by omega)
theorem all_eq {α : Type} (l m : List α) (hl : l.length = m.length) (hp : ∀ j, j < m.length → l[j]? = m[j]?) : l = m := by
  apply List.ext_getElem?
  intro j
  by_cases hj : j < m.length
  · exact hp j hj
  · rw [List.getElem?_eq_none (by omega), List.getElem?_eq_none (by omega)]

theorem b64 {n : Int} (h : (Lit.int .i64 n).wf = true) : -9223372036854775808 ≤ n ∧ n ≤ 9223372036854775807 := by
  simp [Lit.wf, IntKind.min, IntKind.max, IntKind.signed, IntKind.bits] at h
  omega
theorem b8 {n : Int} (h : (Lit.int .u8 n).wf = true) : 0 ≤ n ∧ n ≤ 255 := by
  simp [Lit.wf, IntKind.min, IntKind.max, IntKind.signed, IntKind.bits] at h
  omega

theorem tdiv_nn {a : Int} (h : 0 ≤ a) (b : Int) : Int.tdiv a b = a / b := Int.tdiv_eq_ediv_of_nonneg h
theorem tmod_nn {a : Int} (h : 0 ≤ a) (b : Int) : Int.tmod a b = a % b := Int.tmod_eq_emod_of_nonneg h

theorem laws_toIntS_go (l : List Int) (hl : l.length ≤ 1048576) (d : Nat) : ∀ (k i : Nat) (acc : List Int), acc.length = l.length → i ≤ l.length → l.length - i = d → d < k →
    (∀ j, j < i → acc[j]? = l[j]?) → laws_toIntS.l0 k l acc (i : Int) = some l := by
  induction d with
  | zero =>
    intro k i acc ha hi hd hk hp
    obtain ⟨k, rfl⟩ : ∃ m, k = m + 1 := ⟨k - 1, by omega⟩
    simp only [laws_toIntS.l0]
    rw [if_neg (by omega)]
    exact congrArg some (all_eq acc l ha (fun j hj => hp j (by omega)))
  | succ d ih =>
    intro k i acc ha hi hd hk hp
    obtain ⟨k, rfl⟩ : ∃ m, k = m + 1 := ⟨k - 1, by omega⟩
    simp only [laws_toIntS.l0]
    rw [if_pos (by omega), if_pos (by omega), if_pos (by omega), wnext i (by omega), rd_at l i (by omega), Int.toNat_natCast]
    obtain ⟨h1, h2⟩ := set_step acc l i l[i] ha (by omega) (by simp) hp
    exact ih k (i + 1) _ h1 (by omega) (by omega) (by omega) h2
theorem laws_toIntS_eq (l : List Int) (hl : l.length ≤ 1048576) (k : Nat) (hk : 1048576 < k) : laws_toIntS.f k l = some l := by
  unfold laws_toIntS.f
  rw [if_pos (by omega), if_pos (by omega)]
  exact laws_toIntS_go l hl l.length k 0 _ (by simp) (by omega) (by omega) (by omega) (by intro j hj; omega)

theorem laws_eqIntS_go (l : List Int) (hl : l.length ≤ 1048576) (d : Nat) : ∀ (k i : Nat), i ≤ l.length → l.length - i = d → d < k → laws_eqIntS.l0 k l l (i : Int) = some true := by
  induction d with
  | zero =>
    intro k i hi hd hk
    obtain ⟨k, rfl⟩ : ∃ m, k = m + 1 := ⟨k - 1, by omega⟩
    simp only [laws_eqIntS.l0]
    rw [if_neg (by omega)]
  | succ d ih =>
    intro k i hi hd hk
    obtain ⟨k, rfl⟩ : ∃ m, k = m + 1 := ⟨k - 1, by omega⟩
    simp only [laws_eqIntS.l0]
    rw [if_pos (by omega), if_pos (by omega), if_pos (by omega), wnext i (by omega), if_pos trivial]
    exact ih k (i + 1) (by omega) (by omega) (by omega)
theorem laws_eqIntS_self (l : List Int) (hl : l.length ≤ 1048576) (k : Nat) (hk : 1048576 < k) : laws_eqIntS.f k l l = some true := by
  unfold laws_eqIntS.f
  rw [if_pos rfl]
  exact laws_eqIntS_go l hl l.length k 0 (by omega) (by omega) (by omega)

def laws_markIntS_list (l : List Int) (n : Int) : List Int := (List.range l.length).map fun j : Nat => (fun m : Int => m) (n + (j : Int))
theorem laws_markIntS_list_length (l : List Int) (n : Int) : (laws_markIntS_list l n).length = l.length := by simp [laws_markIntS_list]
theorem laws_markIntS_list_at (l : List Int) (n : Int) (i : Nat) (h : i < l.length) : (laws_markIntS_list l n)[i]? = some ((fun m : Int => m) (n + (i : Int))) := by simp [laws_markIntS_list, h]
theorem laws_markIntS_go (l : List Int) (n : Int) (hn : 0 ≤ n ∧ n ≤ 4611686018427387904) (hl : l.length ≤ 1048576) (d : Nat) : ∀ (k i : Nat) (acc : List Int), acc.length = (laws_markIntS_list l n).length → i ≤ l.length → l.length - i = d → d < k →
    (∀ j, j < i → acc[j]? = (laws_markIntS_list l n)[j]?) → laws_markIntS.l0 k acc (n + (i : Int)) (i : Int) = some (n + (l.length : Int), laws_markIntS_list l n) := by
  induction d with
  | zero =>
    intro k i acc ha hi hd hk hp
    obtain ⟨k, rfl⟩ : ∃ m, k = m + 1 := ⟨k - 1, by omega⟩
    have hL := laws_markIntS_list_length l n
    simp only [laws_markIntS.l0]
    rw [if_neg (by omega), all_eq acc (laws_markIntS_list l n) ha (fun j hj => hp j (by omega)), show i = l.length by omega]
  | succ d ih =>
    intro k i acc ha hi hd hk hp
    obtain ⟨k, rfl⟩ : ∃ m, k = m + 1 := ⟨k - 1, by omega⟩
    have hL := laws_markIntS_list_length l n
    simp only [laws_markIntS.l0]
    rw [if_pos (by omega), if_pos (by omega), wnext i (by omega), Int.toNat_natCast, w64 (by omega) (by omega), show n + (i : Int) + 1 = n + ((i + 1 : Nat) : Int) by omega]
    obtain ⟨h1, h2⟩ := set_step acc (laws_markIntS_list l n) i _ ha (by omega) (laws_markIntS_list_at l n i (by omega)) hp
    exact ih k (i + 1) _ h1 (by omega) (by omega) (by omega) h2
theorem laws_markIntS_eq (l : List Int) (n : Int) (hn : 0 ≤ n ∧ n ≤ 4611686018427387904) (hl : l.length ≤ 1048576) (k : Nat) (hk : 1048576 < k) : laws_markIntS.f k l n = some (n + (l.length : Int), laws_markIntS_list l n) := by
  have hL := laws_markIntS_list_length l n
  have h := laws_markIntS_go l n hn hl l.length k 0 l (by omega) (by omega) (by omega) (by omega) (by intro j hj; omega)
  unfold laws_markIntS.f
  simpa using h

theorem laws_heldIntS_go (l : List Int) (n : Int) (hn : 0 ≤ n ∧ n ≤ 4611686018427387904) (hl : l.length ≤ 1048576) (d : Nat) : ∀ (k i : Nat), i ≤ l.length → l.length - i = d → d < k →
    laws_heldIntS.l0 k (laws_markIntS_list l n) (n + (i : Int)) (i : Int) = some (n + (l.length : Int)) := by
  induction d with
  | zero =>
    intro k i hi hd hk
    obtain ⟨k, rfl⟩ : ∃ m, k = m + 1 := ⟨k - 1, by omega⟩
    have hL := laws_markIntS_list_length l n
    simp only [laws_heldIntS.l0]
    rw [if_neg (by omega), show i = l.length by omega]
  | succ d ih =>
    intro k i hi hd hk
    obtain ⟨k, rfl⟩ : ∃ m, k = m + 1 := ⟨k - 1, by omega⟩
    have hL := laws_markIntS_list_length l n
    have hv : (laws_markIntS_list l n)[i] = (fun m : Int => m) (n + (i : Int)) := by simp [laws_markIntS_list]
    simp only [laws_heldIntS.l0]
    rw [if_pos (by omega), if_pos (by omega), rd_at (laws_markIntS_list l n) i (by omega), hv, if_pos rfl, wnext i (by omega), w64 (by omega) (by omega), show n + (i : Int) + 1 = n + ((i + 1 : Nat) : Int) by omega]
    exact ih k (i + 1) (by omega) (by omega) (by omega)
theorem laws_heldIntS_eq (l : List Int) (n : Int) (hn : 0 ≤ n ∧ n ≤ 4611686018427387904) (hl : l.length ≤ 1048576) (k : Nat) (hk : 1048576 < k) : laws_heldIntS.f k (laws_markIntS_list l n) n = some (n + (l.length : Int)) := by
  have h := laws_heldIntS_go l n hn hl l.length k 0 (by omega) (by omega) (by omega)
  unfold laws_heldIntS.f
  simpa using h

theorem neg_len (n : Nat) : ¬ ((1 : Int) + (n : Int) < 0) := by omega
theorem bne_no (b : Bool) : ¬ ((b != b) = true) := by simp
theorem ff : ¬ (false = true) := by simp
theorem ntt : ¬ ((!true) = true) := by simp
theorem sb {α β : Type} {o : Option α} {v : α} {f : α → Option β} {r : Option β} (h : o = some v) (k : f v = r) : o.bind f = r := by rw [h]; exact k
theorem st {α : Type} {c : Prop} [Decidable c] {a b r : α} (h : c) (k : a = r) : (if c then a else b) = r := by rw [if_pos h]; exact k
theorem sf {α : Type} {c : Prop} [Decidable c] {a b r : α} (h : ¬ c) (k : b = r) : (if c then a else b) = r := by rw [if_neg h]; exact k

def okW (l : List Int) : Bool := decide ((l.length : Int) % 16 = 0 ∧ 32 ≤ l.length ∧ l.length ≤ 192)
theorem words_impl (l : List Int) : impl_WordsOk.f l = some (okW l) := by
  unfold impl_WordsOk.f okW
  by_cases h : ((l.length : Int) % 16) = 0
  · rw [if_pos h]
    by_cases h2 : (l.length : Int) ≥ 32
    · rw [if_pos h2]
      exact congrArg some (decide_eq_decide.2 (by omega))
    · rw [if_neg h2]
      exact congrArg some (decide_eq_false (by omega)).symm
  · rw [if_neg h]
    exact congrArg some (decide_eq_false (by omega)).symm
theorem words_spec (l : List Int) (hl : l.length ≤ 1048576) : spec_WordsOk.f l = some (okW l) := by
  unfold spec_WordsOk.f okW
  by_cases h : ((l.length : Int) % 16) = 0
  · rw [if_pos h, w64 (by omega) (by omega)]
    by_cases h2 : (l.length : Int) / 16 ≥ 2
    · rw [if_pos h2]
      exact congrArg some (decide_eq_decide.2 (by omega))
    · rw [if_neg h2]
      exact congrArg some (decide_eq_false (by omega)).symm
  · rw [if_neg h]
    exact congrArg some (decide_eq_false (by omega)).symm

theorem clone_eq (l : List Int) (hl : l.length ≤ 1048576) : slices_Clone_int_int.f l = some l := by
  unfold slices_Clone_int_int.f
  rw [if_pos (by omega)]

theorem word_of (r n : Int) (hr : 0 ≤ r ∧ r ≤ 4) (hn : 0 ≤ n ∧ n ≤ 4) : spec_ShapeWord.f r n = some (16 * r + n) := by
  unfold spec_ShapeWord.f spec_ShapeOk.f
  rw [if_pos hr.1, if_pos hr.2, if_pos hn.1]
  simp only [Option.bind_some]
  rw [if_pos (by simp [hn.2]), w64 (x := 16 * r) (by omega) (by omega), w64 (by omega) (by omega)]
theorem loop1 (a r : Int) (hr : 0 ≤ r ∧ r ≤ 4) (d : Nat) : ∀ (k : Nat) (n : Int), 0 ≤ n → 5 - n = d →
    spec_ShapeOf.l1 (k + d + 1) a r n = if 16 * r + n ≤ a ∧ a ≤ 16 * r + 4 then some (r, a - 16 * r, true) else spec_ShapeOf.l0 k a (r + 1) := by
  induction d with
  | zero =>
    intro k n h0 hd
    simp only [Nat.add_zero, spec_ShapeOf.l1]
    rw [if_neg (by omega), if_neg (by omega), w64 (by omega) (by omega)]
  | succ d ih =>
    intro k n h0 hd
    rw [show k + (d + 1) + 1 = (k + d + 1) + 1 by omega, spec_ShapeOf.l1]
    rw [if_pos (by omega), word_of r n hr (by omega)]
    simp only [Option.bind_some]
    by_cases e : 16 * r + n = a
    · rw [if_pos e, if_pos (by omega), show a - 16 * r = n by omega]
    · have hi := ih k (n + 1) (by omega) (by omega)
      rw [if_neg e, w64 (by omega) (by omega)]
      refine Eq.trans hi ?_
      by_cases g : 16 * r + n ≤ a ∧ a ≤ 16 * r + 4
      · rw [if_pos g, if_pos (by omega)]
      · rw [if_neg g, if_neg (by omega)]
theorem loop0 (a : Int) (d : Nat) : ∀ (k : Nat) (r : Int), 0 ≤ r → 5 - r = d →
    spec_ShapeOf.l0 (k + 7 * d + 1) a r = if r ≤ a / 16 ∧ a / 16 ≤ 4 ∧ a % 16 ≤ 4 then some (a / 16, a % 16, true) else some (0, 0, false) := by
  induction d with
  | zero =>
    intro k r h0 hd
    simp only [spec_ShapeOf.l0]
    rw [if_neg (by omega), if_neg (by omega)]
  | succ d ih =>
    intro k r h0 hd
    rw [show k + 7 * (d + 1) + 1 = (k + 7 * d + 7) + 1 by omega, spec_ShapeOf.l0]
    rw [if_pos (by omega), show k + 7 * d + 7 = (k + 7 * d + 1) + 5 + 1 by omega, loop1 a r (by omega) 5 (k + 7 * d + 1) 0 (by omega) (by omega), ih k (r + 1) (by omega) (by omega)]
    by_cases e : 16 * r + 0 ≤ a ∧ a ≤ 16 * r + 4
    · rw [if_pos e, if_pos (by omega), show a / 16 = r by omega, show a % 16 = a - 16 * r by omega]
    · rw [if_neg e]
      by_cases g : r + 1 ≤ a / 16 ∧ a / 16 ≤ 4 ∧ a % 16 ≤ 4
      · rw [if_pos g, if_pos (by omega)]
      · rw [if_neg g, if_neg (by omega)]
theorem impl_eq (a : Int) (ha : a ≤ 9223372036854775807) : impl_ShapeOf.f a = if 0 ≤ a / 16 ∧ a / 16 ≤ 4 ∧ a % 16 ≤ 4 then some (a / 16, a % 16, true) else some (0, 0, false) := by
  unfold impl_ShapeOf.f
  by_cases h : a < 0
  · rw [if_pos h, if_neg (by omega)]
  have h0 : 0 ≤ a := by omega
  rw [if_neg h, tdiv_nn h0, tmod_nn h0, w64 (by omega) (by omega)]
  unfold impl_ShapeOk.f
  rw [if_pos (by omega)]
  by_cases g : a / 16 ≤ 4
  · rw [if_pos g, if_pos (by omega)]
    by_cases m : a % 16 ≤ 4
    · rw [if_pos (by omega)]
      simp [m]
    · rw [if_neg (by omega)]
      simp [m]
  · rw [if_neg g, if_neg (by omega)]
    rfl

def seg (l : List Int) (i n : Nat) : List Int := (l.drop i).take n
theorem seg_len (l : List Int) (i n : Nat) (h : i + n ≤ l.length) : (seg l i n).length = n := by
  unfold seg
  rw [List.length_take, List.length_drop]
  omega
theorem seg_succ (l : List Int) (i n : Nat) (h : i + n < l.length) : seg l i (n + 1) = seg l i n ++ [l[i + n]] := by
  unfold seg
  rw [List.take_succ_eq_append_getElem (by rw [List.length_drop]; omega)]
  simp
theorem seg_cut (l : List Int) (i n : Nat) : (l.take (i + n)).drop i = seg l i n := by
  unfold seg
  rw [List.drop_take, Nat.add_sub_cancel_left]
def fitB (l : List Int) (a n : Int) : Bool := okW l && decide (16 ≤ a ∧ a < (l.length : Int) ∧ a % 16 + n ≤ 16)
theorem impl_fit (l : List Int) (a n : Int) (hl : l.length ≤ 1048576) (hn : 0 ≤ n ∧ n ≤ 100) : impl_fits.f l a n = some (fitB l a n) := by
  unfold impl_fits.f fitB
  rw [words_impl l]
  simp only [Option.bind_some]
  cases okW l with
  | false => rfl
  | true =>
    rw [if_pos rfl, Bool.true_and]
    by_cases h1 : a ≥ 16
    · rw [if_pos h1]
      by_cases h2 : a < (l.length : Int)
      · rw [if_pos h2, tmod_nn (by omega), w64 (by omega) (by omega)]
        exact congrArg some (decide_eq_decide.2 (by omega))
      · rw [if_neg h2]
        exact congrArg some (decide_eq_false (by omega)).symm
    · rw [if_neg h1]
      exact congrArg some (decide_eq_false (by omega)).symm
theorem spec_fit (l : List Int) (a n : Int) (hl : l.length ≤ 1048576) (hn : 2 ≤ n ∧ n ≤ 16) : spec_l3Fits.f l a n = some (fitB l a n) := by
  unfold spec_l3Fits.f fitB
  rw [words_spec l hl]
  simp only [Option.bind_some]
  cases okW l with
  | false => rfl
  | true =>
    rw [if_pos rfl, Bool.true_and, if_pos (by omega), if_pos (by omega)]
    by_cases h1 : a ≥ 16
    · rw [if_pos h1]
      by_cases h2 : a < (l.length : Int)
      · rw [if_pos h2, w64 (x := a + n) (by omega) (by omega), w64 (x := a + n - 1) (by omega) (by omega)]
        unfold spec_RegionOf.f
        rw [if_neg (by omega), if_neg (by omega), tdiv_nn (by omega), tdiv_nn (by omega), w64 (by omega) (by omega), w64 (by omega) (by omega)]
        simp only [Option.bind_some]
        refine congrArg some ?_
        rw [Bool.eq_iff_iff]
        simp
        omega
      · rw [if_neg h2]
        exact congrArg some (decide_eq_false (by omega)).symm
    · rw [if_neg h1]
      exact congrArg some (decide_eq_false (by omega)).symm
theorem size_impl (r n : Int) (hr : 0 ≤ r ∧ r ≤ 4) (hn : 0 ≤ n ∧ n ≤ 4) : impl_ShapeSize.f r n = some (2 + r + n) := by
  unfold impl_ShapeSize.f impl_ShapeOk.f
  rw [if_pos hr.1, if_pos hr.2, if_pos hn.1]
  simp only [Option.bind_some]
  rw [if_pos (by simp [hn.2]), w64 (x := 2 + r) (by omega) (by omega), w64 (by omega) (by omega)]
theorem size_spec (r n : Int) (hr : 0 ≤ r ∧ r ≤ 4) (hn : 0 ≤ n ∧ n ≤ 4) : spec_ShapeSize.f r n = some (2 + r + n) := size_impl r n hr hn
theorem spec_nums (l : List Int) (a r n : Nat) (A R N m1 m2 m3 : Int) (refs : List Int) (hA : A = (a : Int)) (hR : R = (r : Int)) (hN : N = (n : Int)) (hr : r ≤ 4) (hn : n ≤ 4) (ha : a ≤ 1000) (hl : a + 2 + r + n ≤ l.length) (d : Nat) : ∀ (k i : Nat), i ≤ n → n - i = d → d < k →
    spec_ThingAt.l1 k l A (i : Int) R N A m1 m2 m3 refs (seg l (a + 2 + r) i) = some (A, m1, m2, m3, refs, seg l (a + 2 + r) n, true) := by
  subst hA hR hN
  induction d with
  | zero =>
    intro k i hi hd hk
    obtain ⟨k, rfl⟩ : ∃ m, k = m + 1 := ⟨k - 1, by omega⟩
    simp only [spec_ThingAt.l1]
    rw [if_neg (by omega), show i = n by omega]
  | succ d ih =>
    intro k i hi hd hk
    obtain ⟨k, rfl⟩ : ∃ m, k = m + 1 := ⟨k - 1, by omega⟩
    simp only [spec_ThingAt.l1]
    rw [if_pos (by omega), w64 (x := (a : Int) + 2) (by omega) (by omega), w64 (x := (a : Int) + 2 + r) (by omega) (by omega), w64 (x := (a : Int) + 2 + r + i) (by omega) (by omega), if_pos (by omega), if_pos (by omega),
      if_pos (by rw [seg_len l _ _ (by omega)]; omega), wnext i (by omega), show (a : Int) + 2 + r + i = ((a + 2 + r + i : Nat) : Int) by omega, rd_at l (a + 2 + r + i) (by omega), ← seg_succ l _ _ (by omega)]
    exact ih k (i + 1) (by omega) (by omega) (by omega)
theorem spec_refs (l : List Int) (a r n : Nat) (A R N m1 m2 m3 : Int) (hA : A = (a : Int)) (hR : R = (r : Int)) (hN : N = (n : Int)) (hr : r ≤ 4) (hn : n ≤ 4) (ha : a ≤ 1000) (hl : a + 2 + r + n ≤ l.length) (d : Nat) : ∀ (k i : Nat), i ≤ r → r - i = d → d + 6 < k →
    spec_ThingAt.l0 k l A (i : Int) R N A m1 m2 m3 (seg l (a + 2) i) = some (A, m1, m2, m3, seg l (a + 2) r, seg l (a + 2 + r) n, true) := by
  induction d with
  | zero =>
    intro k i hi hd hk
    obtain ⟨k, rfl⟩ : ∃ m, k = m + 1 := ⟨k - 1, by omega⟩
    simp only [spec_ThingAt.l0]
    rw [if_neg (by omega), show i = r by omega]
    have := spec_nums l a r n A R N m1 m2 m3 (seg l (a + 2) r) hA hR hN hr hn ha hl n k 0 (by omega) (by omega) (by omega)
    simpa [seg] using this
  | succ d ih =>
    intro k i hi hd hk
    obtain ⟨k, rfl⟩ : ∃ m, k = m + 1 := ⟨k - 1, by omega⟩
    simp only [spec_ThingAt.l0]
    rw [if_pos (by omega), w64 (x := A + 2) (by omega) (by omega), w64 (x := A + 2 + i) (by omega) (by omega), if_pos (by omega), if_pos (by omega),
      if_pos (by rw [seg_len l _ _ (by omega)]; omega), wnext i (by omega), show A + 2 + i = ((a + 2 + i : Nat) : Int) by omega, rd_at l (a + 2 + i) (by omega), ← seg_succ l _ _ (by omega)]
    exact ih k (i + 1) (by omega) (by omega) (by omega)
abbrev Thing7 := Int × Int × Int × Int × List Int × List Int × Bool
def noThing : Thing7 := (0, 0, 0, 0, [], [], false)
def isThing (l : List Int) (a : Int) : Prop := fitB l a 2 = true ∧ (0 ≤ rd l (a + 1) / 16 ∧ rd l (a + 1) / 16 ≤ 4 ∧ rd l (a + 1) % 16 ≤ 4) ∧ fitB l a (2 + rd l (a + 1) / 16 + rd l (a + 1) % 16) = true
def theThing (l : List Int) (a : Int) : Thing7 := (a, rd l a, rd l (a + 1) / 16, rd l (a + 1) % 16, seg l (a.toNat + 2) (rd l (a + 1) / 16).toNat, seg l (a.toNat + 2 + (rd l (a + 1) / 16).toNat) (rd l (a + 1) % 16).toNat, true)
theorem fit_room {l : List Int} {a n : Int} (h : fitB l a n = true) : okW l = true ∧ 16 ≤ a ∧ a + n ≤ (l.length : Int) ∧ l.length ≤ 192 := by
  unfold fitB at h
  rw [Bool.and_eq_true] at h
  obtain ⟨h1, h2⟩ := h
  have h2 := of_decide_eq_true h2
  have h3 := of_decide_eq_true h1
  exact ⟨h1, h2.1, by omega, by omega⟩
theorem thing_both (l : List Int) (a : Int) (hl : l.length ≤ 1048576) (hw : ∀ x ∈ l, (Lit.int .i64 x).wf = true) :
    (isThing l a ∧ ∀ K, 1000 < K → spec_ThingAt.f K l a = some (theThing l a) ∧ impl_ThingAt.f K l a = some (theThing l a)) ∨
    (¬ isThing l a ∧ ∀ K, 1000 < K → spec_ThingAt.f K l a = some noThing ∧ impl_ThingAt.f K l a = some noThing) := by
  cases h2 : fitB l a 2 with
  | false =>
    refine .inr ⟨fun h => by simp [isThing, h2] at h, fun K hK => ?_⟩
    unfold spec_ThingAt.f impl_ThingAt.f
    rw [spec_fit l a 2 hl (by omega), impl_fit l a 2 hl (by omega), h2]
    exact ⟨rfl, rfl⟩
  | true =>
    obtain ⟨_, a0, a1, a2⟩ := fit_room h2
    have hs : ∃ s, rd l (a + 1) = s ∧ s ≤ 9223372036854775807 := by
      refine ⟨_, rfl, ?_⟩
      have : a + 1 = ((a + 1).toNat : Int) := by omega
      rw [this, rd_at l (a + 1).toNat (by omega)]
      exact (b64 (hw _ (List.getElem_mem _))).2
    obtain ⟨s, hse, hsb⟩ := hs
    have hspec : ∀ K, 1000 < K → spec_ShapeOf.f K s = if 0 ≤ s / 16 ∧ s / 16 ≤ 4 ∧ s % 16 ≤ 4 then some (s / 16, s % 16, true) else some (0, 0, false) := by
      intro K hK
      have := loop0 s 5 (K - 36) 0 (by omega) (by omega)
      rw [show K - 36 + 7 * 5 + 1 = K by omega] at this
      exact this
    have himpl := impl_eq s hsb
    by_cases g : 0 ≤ s / 16 ∧ s / 16 ≤ 4 ∧ s % 16 ≤ 4
    · obtain ⟨r, hr⟩ := Int.eq_ofNat_of_zero_le g.1
      obtain ⟨n, hn⟩ := Int.eq_ofNat_of_zero_le (show 0 ≤ s % 16 by omega)
      obtain ⟨b, hb⟩ := Int.eq_ofNat_of_zero_le (show 0 ≤ a by omega)
      cases h3 : fitB l a (2 + s / 16 + s % 16) with
      | false =>
        refine .inr ⟨(fun h => by have := h.2.2; rw [hse, h3] at this; cases this), fun K hK => ?_⟩
        obtain ⟨K, rfl⟩ : ∃ m, K = m + 1 := ⟨K - 1, by omega⟩
        unfold spec_ThingAt.f impl_ThingAt.f
        rw [spec_fit l a 2 hl (by omega), impl_fit l a 2 hl (by omega), h2]
        simp only [Option.bind_some, if_true]
        rw [w64 (x := a + 1) (by omega) (by omega), if_pos (by omega), if_pos (by omega), if_pos (by omega), if_pos (by omega), hse, hspec (K + 1) (by omega), himpl, if_pos g]
        simp only [Option.bind_some, if_true]
        rw [size_spec _ _ (by omega) (by omega), size_impl _ _ (by omega) (by omega)]
        simp only [Option.bind_some]
        rw [spec_fit l a _ hl (by omega), impl_fit l a _ hl (by omega), h3]
        simp only [Option.bind_some, Bool.not_false, spec_ThingAt.j0, impl_ThingAt.j0, if_true]
        exact ⟨rfl, rfl⟩
      | true =>
        obtain ⟨_, c0, c1, c2⟩ := fit_room h3
        refine .inl ⟨⟨h2, by rw [hse]; exact g, by rw [hse]; exact h3⟩, fun K hK => ?_⟩
        obtain ⟨K, rfl⟩ : ∃ m, K = m + 1 := ⟨K - 1, by omega⟩
        unfold spec_ThingAt.f impl_ThingAt.f
        rw [spec_fit l a 2 hl (by omega), impl_fit l a 2 hl (by omega), h2]
        simp only [Option.bind_some, if_true]
        rw [w64 (x := a + 1) (by omega) (by omega), if_pos (by omega), if_pos (by omega), if_pos (by omega), if_pos (by omega), hse, hspec (K + 1) (by omega), himpl, if_pos g]
        simp only [Option.bind_some, if_true]
        rw [size_spec _ _ (by omega) (by omega), size_impl _ _ (by omega) (by omega)]
        simp only [Option.bind_some]
        rw [spec_fit l a _ hl (by omega), impl_fit l a _ hl (by omega), h3]
        simp only [Option.bind_some, Bool.not_true, spec_ThingAt.j0, impl_ThingAt.j0, Bool.false_eq_true, if_false]
        have hth : theThing l a = (a, rd l a, s / 16, s % 16, seg l (b + 2) r, seg l (b + 2 + r) n, true) := by
          unfold theThing
          rw [hse, hr, hn, hb]
          simp
        rw [hth]
        refine ⟨?_, ?_⟩
        · rw [if_pos (by omega), if_pos (by omega)]
          have := spec_refs l b r n a (s / 16) (s % 16) (rd l a) (s / 16) (s % 16) (by omega) (by omega) (by omega) (by omega) (by omega) (by omega) (by omega) r K 0 (by omega) (by omega) (by omega)
          simpa [seg] using this
        · rw [if_pos (by omega), if_pos (by omega), w64 (x := a + 2) (by omega) (by omega), w64 (x := a + 2 + s / 16) (by omega) (by omega), w64 (x := a + 2 + s / 16 + s % 16) (by omega) (by omega),
            if_pos (by omega), if_pos (by omega), if_pos (by omega), show (a + 2 + s / 16).toNat = b + 2 + r by omega, show (a + 2).toNat = b + 2 by omega, seg_cut, clone_eq _ (by rw [seg_len l _ _ (by omega)]; omega)]
          simp only [Option.bind_some]
          rw [if_pos (by omega), if_pos (by omega), if_pos (by omega), show (a + 2 + s / 16 + s % 16).toNat = b + 2 + r + n by omega, seg_cut, clone_eq _ (by rw [seg_len l _ _ (by omega)]; omega)]
          rfl
    · refine .inr ⟨(fun h => by have := h.2.1; rw [hse] at this; exact g this), fun K hK => ?_⟩
      obtain ⟨K, rfl⟩ : ∃ m, K = m + 1 := ⟨K - 1, by omega⟩
      unfold spec_ThingAt.f impl_ThingAt.f
      rw [spec_fit l a 2 hl (by omega), impl_fit l a 2 hl (by omega), h2]
      simp only [Option.bind_some, if_true]
      rw [w64 (x := a + 1) (by omega) (by omega), if_pos (by omega), if_pos (by omega), if_pos (by omega), if_pos (by omega), hse, hspec (K + 1) (by omega), himpl, if_neg g]
      simp only [Option.bind_some, Bool.false_eq_true, if_false, spec_ThingAt.j0, impl_ThingAt.j0, if_true]
      exact ⟨rfl, rfl⟩

def thingSize (l : List Int) (a : Int) : Int := 2 + rd l (a + 1) / 16 + rd l (a + 1) % 16
def smallT (x : S52) : Prop := x.f3.length ≤ 16 ∧ x.f4.length ≤ 16
structure SizeOf (l : List Int) (a : Int) : Prop where
  ok : (theThing l a).2.2.2.2.2.2 = true
  s : spec_ShapeSize.f (theThing l a).2.2.1 (theThing l a).2.2.2.1 = some (thingSize l a)
  i : ∀ x0 x1 x4 x5, impl_Thing_size.f x0 x1 (theThing l a).2.2.1 (theThing l a).2.2.2.1 x4 x5 = some (thingSize l a)
  lo : 2 ≤ thingSize l a ∧ thingSize l a ≤ 10
  r3 : (theThing l a).2.2.2.2.1.length ≤ 16
  r4 : (theThing l a).2.2.2.2.2.1.length ≤ 16
theorem size_of {l : List Int} {a : Int} (h : isThing l a) : SizeOf l a := by
  obtain ⟨h1, h2, h3⟩ := h
  have es : spec_ShapeSize.f (theThing l a).2.2.1 (theThing l a).2.2.2.1 = some (thingSize l a) := size_spec _ _ ⟨by show 0 ≤ rd l (a + 1) / 16; omega, by show rd l (a + 1) / 16 ≤ 4; omega⟩ ⟨by show 0 ≤ rd l (a + 1) % 16; omega, by show rd l (a + 1) % 16 ≤ 4; omega⟩
  have ei : impl_ShapeSize.f (theThing l a).2.2.1 (theThing l a).2.2.2.1 = some (thingSize l a) := size_impl _ _ ⟨by show 0 ≤ rd l (a + 1) / 16; omega, by show rd l (a + 1) / 16 ≤ 4; omega⟩ ⟨by show 0 ≤ rd l (a + 1) % 16; omega, by show rd l (a + 1) % 16 ≤ 4; omega⟩
  refine ⟨rfl, es, fun x0 x1 x4 x5 => ?_, ?_, ?_, ?_⟩
  · unfold impl_Thing_size.f
    rw [ei]
    rfl
  · unfold thingSize
    omega
  · simp only [theThing, seg, List.length_take, List.length_drop]
    omega
  · simp only [theThing, seg, List.length_take, List.length_drop]
    omega
theorem in_go (l : List Int) (hl : l.length ≤ 1048576) (hw : ∀ x ∈ l, (Lit.int .i64 x).wf = true) (top : Int) (d : Nat) : ∀ (p : Int) (acc : List S52), 0 ≤ p → p ≤ 1000000 → top - p ≤ d → acc.length + d ≤ 1000 → (∀ x ∈ acc, smallT x) →
    ∃ r : List S52 × Bool, r.1.length ≤ 1000 ∧ (∀ x ∈ r.1, smallT x) ∧ ∀ K, 1001 + d < K → spec_ThingsIn.l0 K l top acc p = some r ∧ impl_ThingsIn.l0 K l top acc p = some r := by
  induction d with
  | zero =>
    intro p acc h0 h1 hd ha hs
    refine ⟨(acc, true), by simpa using ha, hs, fun K hK => ?_⟩
    obtain ⟨K, rfl⟩ : ∃ m, K = m + 1 := ⟨K - 1, by omega⟩
    simp only [spec_ThingsIn.l0, impl_ThingsIn.l0]
    rw [if_neg (by omega), if_neg (by omega)]
    exact ⟨rfl, rfl⟩
  | succ d ih =>
    intro p acc h0 h1 hd ha hs
    by_cases c : p < top
    · rcases thing_both l p hl hw with ⟨h, hk⟩ | ⟨_, hk⟩
      · have sz := size_of h
        have hf := fit_room h.2.2
        have e3 : p + thingSize l p ≤ (l.length : Int) := hf.2.2.1
        have e4 := hf.2.2.2
        have hlo := sz.lo
        by_cases c2 : p + thingSize l p > top
        · refine ⟨([], false), by simp, by simp, fun K hK => ?_⟩
          obtain ⟨K, rfl⟩ : ∃ m, K = m + 1 := ⟨K - 1, by omega⟩
          obtain ⟨hS, hI⟩ := hk K (by omega)
          simp only [spec_ThingsIn.l0, impl_ThingsIn.l0]
          rw [if_pos c, if_pos c, hS, hI]
          simp only [Option.bind_some]
          rw [if_pos sz.ok, if_pos sz.ok, sz.s, sz.i]
          simp only [Option.bind_some]
          rw [w64 (x := p + thingSize l p) (by omega) (by omega), if_pos c2, if_pos c2]
          exact ⟨rfl, rfl⟩
        · obtain ⟨r, r1, r2, r3⟩ := ih (p + thingSize l p) (acc ++ [⟨(theThing l p).1, (theThing l p).2.1, ⟨(theThing l p).2.2.1, (theThing l p).2.2.2.1⟩, (theThing l p).2.2.2.2.1, (theThing l p).2.2.2.2.2.1⟩]) (by omega) (by omega) (by omega) (by simp; omega) (by
            intro x hx
            rcases List.mem_append.1 hx with hx | hx
            · exact hs x hx
            · obtain rfl := List.mem_singleton.1 hx
              exact ⟨sz.r3, sz.r4⟩)
          refine ⟨r, r1, r2, fun K hK => ?_⟩
          obtain ⟨K, rfl⟩ : ∃ m, K = m + 1 := ⟨K - 1, by omega⟩
          obtain ⟨hS, hI⟩ := hk K (by omega)
          obtain ⟨rS, rI⟩ := r3 K (by omega)
          simp only [spec_ThingsIn.l0, impl_ThingsIn.l0]
          rw [if_pos c, if_pos c, hS, hI]
          simp only [Option.bind_some]
          rw [if_pos sz.ok, if_pos sz.ok, sz.s, sz.i]
          simp only [Option.bind_some]
          rw [w64 (x := p + thingSize l p) (by omega) (by omega), if_neg c2, if_neg c2, if_pos (by omega), if_pos (by omega), rS, rI]
          exact ⟨rfl, rfl⟩
      · refine ⟨([], false), by simp, by simp, fun K hK => ?_⟩
        obtain ⟨K, rfl⟩ : ∃ m, K = m + 1 := ⟨K - 1, by omega⟩
        obtain ⟨hS, hI⟩ := hk K (by omega)
        simp only [spec_ThingsIn.l0, impl_ThingsIn.l0]
        rw [if_pos c, if_pos c, hS, hI]
        exact ⟨rfl, rfl⟩
    · refine ⟨(acc, true), by show acc.length ≤ 1000; omega, hs, fun K hK => ?_⟩
      obtain ⟨K, rfl⟩ : ∃ m, K = m + 1 := ⟨K - 1, by omega⟩
      simp only [spec_ThingsIn.l0, impl_ThingsIn.l0]
      rw [if_neg c, if_neg c]
      exact ⟨rfl, rfl⟩
theorem in_both (l : List Int) (a1 a2 : Int) (hl : l.length ≤ 1048576) (hw : ∀ x ∈ l, (Lit.int .i64 x).wf = true) : ∃ r : List S52 × Bool, r.1.length ≤ 1000 ∧ (∀ x ∈ r.1, smallT x) ∧ ∀ K, 1100 < K → spec_ThingsIn.f K l a1 a2 = some r ∧ impl_ThingsIn.f K l a1 a2 = some r := by
  have bad : ∀ K, 1100 < K → spec_ThingsIn.j0 K l a1 a2 true = some ([], false) ∧ impl_ThingsIn.j0 K l a1 a2 true = some ([], false) := by
    intro K hK
    obtain ⟨K, rfl⟩ : ∃ m, K = m + 1 := ⟨K - 1, by omega⟩
    simp [spec_ThingsIn.j0, impl_ThingsIn.j0]
  have no : (∀ K, 1100 < K → spec_ThingsIn.f K l a1 a2 = spec_ThingsIn.j0 K l a1 a2 true ∧ impl_ThingsIn.f K l a1 a2 = impl_ThingsIn.j0 K l a1 a2 true) → ∃ r : List S52 × Bool, r.1.length ≤ 1000 ∧ (∀ x ∈ r.1, smallT x) ∧ ∀ K, 1100 < K → spec_ThingsIn.f K l a1 a2 = some r ∧ impl_ThingsIn.f K l a1 a2 = some r :=
    fun h => ⟨([], false), by simp, by simp, fun K hK => ⟨(h K hK).1.trans (bad K hK).1, (h K hK).2.trans (bad K hK).2⟩⟩
  cases hok : okW l with
  | false =>
    refine no (fun K hK => ?_)
    unfold spec_ThingsIn.f impl_ThingsIn.f
    rw [words_spec l hl, words_impl l, hok]
    exact ⟨rfl, rfl⟩
  | true =>
    have hlen : l.length ≤ 192 := by
      have := of_decide_eq_true hok
      omega
    have hq : wrap64 ((l.length : Int) / 16) = (l.length : Int) / 16 := w64 (by omega) (by omega)
    by_cases c1 : a1 < 1
    · refine no (fun K hK => ?_)
      unfold spec_ThingsIn.f impl_ThingsIn.f
      rw [words_spec l hl, words_impl l, hok]
      simp only [Option.bind_some]
      rw [if_pos trivial, if_pos trivial, if_pos c1, if_pos c1]
      exact ⟨rfl, rfl⟩
    by_cases c2 : a1 ≥ (l.length : Int) / 16
    · refine no (fun K hK => ?_)
      unfold spec_ThingsIn.f impl_ThingsIn.f
      rw [words_spec l hl, words_impl l, hok, hq]
      simp only [Option.bind_some]
      rw [if_pos trivial, if_pos trivial, if_neg c1, if_neg c1, if_pos c2, if_pos c2]
      exact ⟨rfl, rfl⟩
    have bs : spec_RegionBase.f a1 = some (a1 * 16) := by
      unfold spec_RegionBase.f
      rw [if_neg (by omega), if_neg (by omega), w64 (by omega) (by omega)]
    have bi : impl_RegionBase.f a1 = some (a1 * 16) := bs
    by_cases c3 : a2 < a1 * 16
    · refine no (fun K hK => ?_)
      unfold spec_ThingsIn.f impl_ThingsIn.f
      rw [words_spec l hl, words_impl l, hok, hq]
      simp only [Option.bind_some]
      rw [if_pos trivial, if_pos trivial, if_neg c1, if_neg c1, if_neg c2, if_neg c2, bs, bi]
      simp only [Option.bind_some]
      rw [if_pos c3, if_pos c3]
      exact ⟨rfl, rfl⟩
    by_cases c4 : a2 > a1 * 16 + 16
    · refine no (fun K hK => ?_)
      unfold spec_ThingsIn.f impl_ThingsIn.f
      rw [words_spec l hl, words_impl l, hok, hq]
      simp only [Option.bind_some]
      rw [if_pos trivial, if_pos trivial, if_neg c1, if_neg c1, if_neg c2, if_neg c2, bs, bi]
      simp only [Option.bind_some]
      rw [if_neg c3, if_neg c3, w64 (x := a1 * 16 + 16) (by omega) (by omega), decide_eq_true c4]
      exact ⟨rfl, rfl⟩
    obtain ⟨r, r1, r2, r3⟩ := in_go l hl hw a2 16 (a1 * 16) [] (by omega) (by omega) (by omega) (by simp) (by simp)
    refine ⟨r, r1, r2, fun K hK => ?_⟩
    unfold spec_ThingsIn.f impl_ThingsIn.f
    rw [words_spec l hl, words_impl l, hok, hq]
    simp only [Option.bind_some]
    rw [if_pos trivial, if_pos trivial, if_neg c1, if_neg c1, if_neg c2, if_neg c2, bs, bi]
    simp only [Option.bind_some]
    rw [if_neg c3, if_neg c3, w64 (x := a1 * 16 + 16) (by omega) (by omega), decide_eq_false c4]
    obtain ⟨K, rfl⟩ : ∃ m, K = m + 1 := ⟨K - 1, by omega⟩
    obtain ⟨rS, rI⟩ := r3 K (by omega)
    simp only [spec_ThingsIn.j0, impl_ThingsIn.j0]
    rw [if_neg ff, if_neg ff, bs, bi]
    exact ⟨rS, rI⟩
theorem T52_at (l : List S52) (i : Nat) (h : i < l.length) : rd_T52 l (i : Int) = l[i] := by
  simp [rd_T52, List.getD, h]
theorem eq_thing (x : S52) (h : smallT x) (k : Nat) (hk : 1048576 < k) : laws_eqThing.f k x.f0 x.f1 x.f2.f0 x.f2.f1 x.f3 x.f4 x.f0 x.f1 x.f2.f0 x.f2.f1 x.f3 x.f4 = some true := by
  have h3 := h.1
  have h4 := h.2
  unfold laws_eqThing.f laws_eqShape.f
  simp only [if_true, Option.bind_some]
  rw [laws_eqIntS_self _ (by omega) k hk]
  simp only [if_true, Option.bind_some]
  rw [laws_eqIntS_self _ (by omega) k hk]
  rfl
theorem eq_things (l : List S52) (hl : l.length ≤ 1000) (hx : ∀ x ∈ l, smallT x) (d : Nat) : ∀ (k i : Nat), i ≤ l.length → l.length - i = d → d + 1048577 < k → laws_eqThingS.l0 k l l (i : Int) = some true := by
  induction d with
  | zero =>
    intro k i hi hd hk
    obtain ⟨k, rfl⟩ : ∃ m, k = m + 1 := ⟨k - 1, by omega⟩
    simp only [laws_eqThingS.l0]
    rw [if_neg (by omega)]
  | succ d ih =>
    intro k i hi hd hk
    obtain ⟨k, rfl⟩ : ∃ m, k = m + 1 := ⟨k - 1, by omega⟩
    simp only [laws_eqThingS.l0]
    rw [if_pos (by omega), if_pos (by omega), if_pos (by omega), T52_at l i (by omega), eq_thing _ (hx _ (List.getElem_mem _)) k (by omega), wnext i (by omega)]
    simp only [Option.bind_some]
    rw [if_pos trivial]
    exact ih k (i + 1) (by omega) (by omega) (by omega)
theorem eq_things_self (l : List S52) (hl : l.length ≤ 1000) (hx : ∀ x ∈ l, smallT x) (k : Nat) (hk : 1049600 < k) : laws_eqThingS.f k l l = some true := by
  unfold laws_eqThingS.f
  rw [if_pos rfl]
  exact eq_things l hl hx l.length k 0 (by omega) (by omega) (by omega)
theorem mark_things (d : Nat) : ∀ (k i : Nat) (l : List S52) (n : Int), l.length ≤ 1000 → (∀ x ∈ l, smallT x) → i ≤ l.length → l.length - i = d → d + 1048577 < k → 0 ≤ n → n + (d : Int) * 100 ≤ 1000000000 →
    ∃ m l', laws_markThingS.l0 k l n (i : Int) = some (m, l') ∧ l'.length = l.length ∧ (∀ j, j < i → l'[j]? = l[j]?) ∧ n ≤ m ∧ m ≤ n + (d : Int) * 100 ∧ laws_heldThingS.l0 k l' n (i : Int) = some m := by
  induction d with
  | zero =>
    intro k i l n h1 h2 hi hd hk h0 hn
    obtain ⟨k, rfl⟩ : ∃ m, k = m + 1 := ⟨k - 1, by omega⟩
    simp only [laws_markThingS.l0, laws_heldThingS.l0]
    rw [if_neg (by omega)]
    exact ⟨n, l, rfl, rfl, fun _ _ => rfl, by omega, by omega, by rw [if_neg (by omega)]⟩
  | succ d ih =>
    intro k i l n h1 h2 hi hd hk h0 hn
    obtain ⟨k, rfl⟩ : ∃ m, k = m + 1 := ⟨k - 1, by omega⟩
    have hl := h2 l[i] (List.getElem_mem _)
    have hl3 := hl.1
    have hl4 := hl.2
    have w1 : wrap64 (n + 1) = n + 1 := w64 (by omega) (by omega)
    have w2 : wrap64 (n + 1 + 1) = n + 2 := by rw [w64 (by omega) (by omega)]; omega
    have w3 : wrap64 (n + 2 + 1) = n + 3 := by rw [w64 (by omega) (by omega)]; omega
    have w4 : wrap64 (n + 3 + 1) = n + 4 := by rw [w64 (by omega) (by omega)]; omega
    simp only [laws_markThingS.l0]
    rw [if_pos (by omega), if_pos (by omega), T52_at l i (by omega), w1, w2, w3, w4, laws_markIntS_eq l[i].f3 (n + 4) ⟨by omega, by omega⟩ (by omega) k (by omega)]
    simp only [Option.bind_some]
    rw [laws_markIntS_eq l[i].f4 (n + 4 + (l[i].f3.length : Int)) ⟨by omega, by omega⟩ (by omega) k (by omega)]
    simp only [Option.bind_some]
    rw [wnext i (by omega), Int.toNat_natCast]
    obtain ⟨e, he⟩ : ∃ e : S52, e = ⟨n, n + 1, ⟨n + 2, n + 3⟩, laws_markIntS_list l[i].f3 (n + 4), laws_markIntS_list l[i].f4 (n + 4 + (l[i].f3.length : Int))⟩ := ⟨_, rfl⟩
    obtain ⟨n2, hn2⟩ : ∃ n2, n2 = n + 4 + (l[i].f3.length : Int) + (l[i].f4.length : Int) := ⟨_, rfl⟩
    have r3 := laws_heldIntS_eq l[i].f3 (n + 4) ⟨by omega, by omega⟩ (by omega) k (by omega)
    have r4 := laws_heldIntS_eq l[i].f4 (n + 4 + (l[i].f3.length : Int)) ⟨by omega, by omega⟩ (by omega) k (by omega)
    rw [← he, ← hn2]
    obtain ⟨m, l', e1, e2, e3, e4, e5, e6⟩ := ih k (i + 1) (l.set i e) n2 (by simpa using h1) (by
      intro x hx
      rcases List.mem_or_eq_of_mem_set hx with hx | rfl
      · exact h2 x hx
      · rw [he]
        exact ⟨by show (laws_markIntS_list _ _).length ≤ 16; rw [laws_markIntS_list_length]; exact hl3, by show (laws_markIntS_list _ _).length ≤ 16; rw [laws_markIntS_list_length]; exact hl4⟩) (by simpa using by omega) (by simpa using by omega) (by omega) (by omega) (by omega)
    have hl' : l'.length = l.length := by simpa using e2
    have hei : l'[i]? = some e := by
      rw [e3 i (by omega)]
      exact List.getElem?_set_self (by omega)
    have hgi : rd_T52 l' (i : Int) = e := by simp [rd_T52, List.getD, hei]
    refine ⟨m, l', e1, hl', fun j hj => by rw [e3 j (by omega), List.getElem?_set_ne (by omega)], by omega, by omega, ?_⟩
    simp only [laws_heldThingS.l0]
    rw [if_pos (by omega), if_pos (by omega), hgi, w1, w2, w3, w4]
    rw [he]
    dsimp only
    rw [if_pos rfl, if_pos rfl, if_pos rfl, if_pos rfl, r3]
    simp only [Option.bind_some]
    rw [if_neg (by omega), r4]
    simp only [Option.bind_some]
    rw [if_neg (by omega), wnext i (by omega), ← hn2]
    exact e6
theorem FnExactThingsIn (l : List Int) (a1 a2 : Int) (hg : l.length ≤ maxLen ∧ ∀ x ∈ l, (Lit.int .i64 x).wf = true) (_ : (Lit.int .i64 a1).wf = true) (_ : (Lit.int .i64 a2).wf = true) : ∃ k, laws_FnExactThingsIn.f k l a1 a2 = some true := by
  obtain ⟨K, hK⟩ : ∃ K, 1050000 < K := ⟨1050001, by omega⟩
  refine ⟨K, ?_⟩
  unfold laws_FnExactThingsIn.f
  by_cases h : (l.length : Int) > 1048576
  · exact st h rfl
  have hl : l.length ≤ 1048576 := by omega
  obtain ⟨r, r1, r2, r3⟩ := in_both l a1 a2 hl hg.2
  obtain ⟨rs, ri⟩ := r3 K (by omega)
  obtain ⟨m, l', e1, _, _, e4, e5, e6⟩ := mark_things r.1.length K 0 r.1 1 r1 r2 (by omega) (by omega) (by omega) (by omega) (by omega)
  have em : laws_markThingS.f K r.1 1 = some (m, l') := e1
  have eh : laws_heldThingS.f K l' 1 = some m := e6
  refine sf h (sb (laws_toIntS_eq l hl K (by omega)) (sb rs (sb ri (sb (eq_things_self r.1 r1 r2 K (by omega)) (sb (laws_eqIntS_self l hl K (by omega)) (sb (laws_markIntS_eq l 1 ⟨by omega, by omega⟩ hl K (by omega)) (sb em ?_)))))))
  dsimp only
  exact sb eh (if_pos ⟨rfl, rfl, rfl, neg_len _, by omega, rfl⟩)

end Go.Proofs.Ytaihpphekkiemaa.Pure
