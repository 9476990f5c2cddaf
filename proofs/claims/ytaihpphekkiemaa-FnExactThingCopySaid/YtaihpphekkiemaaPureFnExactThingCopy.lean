/- ThingCopy of the program answers as the reference does, at every slice of ints of at most 2^20 elements and every two ints, leaves its argument alone, and answers with new memory each time. No condition. -/
import Derived.Test.YtaihpphekkiemaaQFnExactThingCopyx7
namespace Go.Proofs.Ytaihpphekkiemaa.Pure
open Go.RowKit Go.Proofs.Ytaihpphekkiemaa.QFnExactThingCopy Go.Proofs.YtaihpphekkiemaaW.PrintWords Go.Proofs.YtaihpphekkiemaaW.PrintLast Go.Proofs.YtaihpphekkiemaaW.PrintMore
set_option linter.unusedVariables false
set_option linter.unusedSimpArgs false

theorem w64 {x : Int} (h0 : -9223372036854775808 ≤ x) (h1 : x ≤ 9223372036854775807) : wrap64 x = x := by
  unfold wrap64
  omega
theorem wnext (i : Nat) (h : i < 9223372036854775807) : wrap64 ((i : Int) + 1) = ((i + 1 : Nat) : Int) := by
  unfold wrap64
  omega
theorem rdOf_at {α : Type} (d : α) (l : List α) (i : Nat) (h : i < l.length) : rdOf d l (i : Int) = l[i] := by
  simp [rdOf, List.getD, h]
theorem rd_at (l : List Int) (i : Nat) (h : i < l.length) : rd l (i : Int) = l[i] := by
  simp [rd, List.getD, h]
theorem set_step {α : Type} (l m : List α) (i : Nat) (v : α) (hl : l.length = m.length) (hi : i < m.length) (hv : m[i]? = some v)
    (hp : ∀ j, j < i → l[j]? = m[j]?) : (l.set i v).length = m.length ∧ ∀ j, j < i + 1 → (l.set i v)[j]? = m[j]? := by
  refine ⟨by simp [hl], fun j hj => ?_⟩
  rw [List.getElem?_set]
  by_cases e : i = j
  · subst e
    rw [if_pos rfl, if_pos (by omega), hv]
  · rw [if_neg e]
    exact hp j (by omega)
theorem all_eq {α : Type} (l m : List α) (hl : l.length = m.length) (hp : ∀ j, j < m.length → l[j]? = m[j]?) : l = m := by
  apply List.ext_getElem?
  intro j
  by_cases hj : j < m.length
  · exact hp j hj
  · rw [List.getElem?_eq_none (by omega), List.getElem?_eq_none (by omega)]

theorem b64 {n : Int} (h : (Lit.int .i64 n).wf = true) : -9223372036854775808 ≤ n ∧ n ≤ 9223372036854775807 := by
  simp [Lit.wf, IntKind.min, IntKind.max, IntKind.signed, IntKind.bits] at h
  omega
theorem b8 {n : Int} (h : (Lit.int .u8 n).wf = true) : 0 ≤ n ∧ n ≤ 255 := by
  simp [Lit.wf, IntKind.min, IntKind.max, IntKind.signed, IntKind.bits] at h
  omega

theorem tdiv_nn {a : Int} (h : 0 ≤ a) (b : Int) : Int.tdiv a b = a / b := Int.tdiv_eq_ediv_of_nonneg h
theorem tmod_nn {a : Int} (h : 0 ≤ a) (b : Int) : Int.tmod a b = a % b := Int.tmod_eq_emod_of_nonneg h

theorem laws_toIntS_go (l : List Int) (hl : l.length ≤ 1048576) (d : Nat) : ∀ (k i : Nat) (acc : List Int), acc.length = l.length → i ≤ l.length → l.length - i = d → d < k →
    (∀ j, j < i → acc[j]? = l[j]?) → laws_toIntS.l0 k l acc (i : Int) = some l := by
  induction d with
  | zero =>
    intro k i acc ha hi hd hk hp
    obtain ⟨k, rfl⟩ : ∃ m, k = m + 1 := ⟨k - 1, by omega⟩
    simp only [laws_toIntS.l0]
    rw [if_neg (by omega)]
    exact congrArg some (all_eq acc l ha (fun j hj => hp j (by omega)))
  | succ d ih =>
    intro k i acc ha hi hd hk hp
    obtain ⟨k, rfl⟩ : ∃ m, k = m + 1 := ⟨k - 1, by omega⟩
    simp only [laws_toIntS.l0]
    rw [if_pos (by omega), if_pos (by omega), if_pos (by omega), wnext i (by omega), rd_at l i (by omega), Int.toNat_natCast]
    obtain ⟨h1, h2⟩ := set_step acc l i l[i] ha (by omega) (by simp) hp
    exact ih k (i + 1) _ h1 (by omega) (by omega) (by omega) h2
theorem laws_toIntS_eq (l : List Int) (hl : l.length ≤ 1048576) (k : Nat) (hk : 1048576 < k) : laws_toIntS.f k l = some l := by
  unfold laws_toIntS.f
  rw [if_pos (by omega), if_pos (by omega)]
  exact laws_toIntS_go l hl l.length k 0 _ (by simp) (by omega) (by omega) (by omega) (by intro j hj; omega)

theorem laws_eqIntS_go (l : List Int) (hl : l.length ≤ 1048576) (d : Nat) : ∀ (k i : Nat), i ≤ l.length → l.length - i = d → d < k → laws_eqIntS.l0 k l l (i : Int) = some true := by
  induction d with
  | zero =>
    intro k i hi hd hk
    obtain ⟨k, rfl⟩ : ∃ m, k = m + 1 := ⟨k - 1, by omega⟩
    simp only [laws_eqIntS.l0]
    rw [if_neg (by omega)]
  | succ d ih =>
    intro k i hi hd hk
    obtain ⟨k, rfl⟩ : ∃ m, k = m + 1 := ⟨k - 1, by omega⟩
    simp only [laws_eqIntS.l0]
    rw [if_pos (by omega), if_pos (by omega), if_pos (by omega), wnext i (by omega), if_pos trivial]
    exact ih k (i + 1) (by omega) (by omega) (by omega)
theorem laws_eqIntS_self (l : List Int) (hl : l.length ≤ 1048576) (k : Nat) (hk : 1048576 < k) : laws_eqIntS.f k l l = some true := by
  unfold laws_eqIntS.f
  rw [if_pos rfl]
  exact laws_eqIntS_go l hl l.length k 0 (by omega) (by omega) (by omega)

def laws_markIntS_list (l : List Int) (n : Int) : List Int := (List.range l.length).map fun j : Nat => (fun m : Int => m) (n + (j : Int))
theorem laws_markIntS_list_length (l : List Int) (n : Int) : (laws_markIntS_list l n).length = l.length := by simp [laws_markIntS_list]
theorem laws_markIntS_list_at (l : List Int) (n : Int) (i : Nat) (h : i < l.length) : (laws_markIntS_list l n)[i]? = some ((fun m : Int => m) (n + (i : Int))) := by simp [laws_markIntS_list, h]
theorem laws_markIntS_go (l : List Int) (n : Int) (hn : 0 ≤ n ∧ n ≤ 4611686018427387904) (hl : l.length ≤ 1048576) (d : Nat) : ∀ (k i : Nat) (acc : List Int), acc.length = (laws_markIntS_list l n).length → i ≤ l.length → l.length - i = d → d < k →
    (∀ j, j < i → acc[j]? = (laws_markIntS_list l n)[j]?) → laws_markIntS.l0 k acc (n + (i : Int)) (i : Int) = some (n + (l.length : Int), laws_markIntS_list l n) := by
  induction d with
  | zero =>
    intro k i acc ha hi hd hk hp
    obtain ⟨k, rfl⟩ : ∃ m, k = m + 1 := ⟨k - 1, by omega⟩
    have hL := laws_markIntS_list_length l n
    simp only [laws_markIntS.l0]
    rw [if_neg (by omega), all_eq acc (laws_markIntS_list l n) ha (fun j hj => hp j (by omega)), show i = l.length by omega]
  | succ d ih =>
    intro k i acc ha hi hd hk hp
    obtain ⟨k, rfl⟩ : ∃ m, k = m + 1 := ⟨k - 1, by omega⟩
    have hL := laws_markIntS_list_length l n
    simp only [laws_markIntS.l0]
    rw [if_pos (by omega), if_pos (by omega), wnext i (by omega), Int.toNat_natCast, w64 (by omega) (by omega), show n + (i : Int) + 1 = n + ((i + 1 : Nat) : Int) by omega]
    obtain ⟨h1, h2⟩ := set_step acc (laws_markIntS_list l n) i _ ha (by omega) (laws_markIntS_list_at l n i (by omega)) hp
    exact ih k (i + 1) _ h1 (by omega) (by omega) (by omega) h2
theorem laws_markIntS_eq (l : List Int) (n : Int) (hn : 0 ≤ n ∧ n ≤ 4611686018427387904) (hl : l.length ≤ 1048576) (k : Nat) (hk : 1048576 < k) : laws_markIntS.f k l n = some (n + (l.length : Int), laws_markIntS_list l n) := by
  have hL := laws_markIntS_list_length l n
  have h := laws_markIntS_go l n hn hl l.length k 0 l (by omega) (by omega) (by omega) (by omega) (by intro j hj; omega)
  unfold laws_markIntS.f
  simpa using h

theorem laws_heldIntS_go (l : List Int) (n : Int) (hn : 0 ≤ n ∧ n ≤ 4611686018427387904) (hl : l.length ≤ 1048576) (d : Nat) : ∀ (k i : Nat), i ≤ l.length → l.length - i = d → d < k →
    laws_heldIntS.l0 k (laws_markIntS_list l n) (n + (i : Int)) (i : Int) = some (n + (l.length : Int)) := by
  induction d with
  | zero =>
    intro k i hi hd hk
    obtain ⟨k, rfl⟩ : ∃ m, k = m + 1 := ⟨k - 1, by omega⟩
    have hL := laws_markIntS_list_length l n
    simp only [laws_heldIntS.l0]
    rw [if_neg (by omega), show i = l.length by omega]
  | succ d ih =>
    intro k i hi hd hk
    obtain ⟨k, rfl⟩ : ∃ m, k = m + 1 := ⟨k - 1, by omega⟩
    have hL := laws_markIntS_list_length l n
    have hv : (laws_markIntS_list l n)[i] = (fun m : Int => m) (n + (i : Int)) := by simp [laws_markIntS_list]
    simp only [laws_heldIntS.l0]
    rw [if_pos (by omega), if_pos (by omega), rd_at (laws_markIntS_list l n) i (by omega), hv, if_pos rfl, wnext i (by omega), w64 (by omega) (by omega), show n + (i : Int) + 1 = n + ((i + 1 : Nat) : Int) by omega]
    exact ih k (i + 1) (by omega) (by omega) (by omega)
theorem laws_heldIntS_eq (l : List Int) (n : Int) (hn : 0 ≤ n ∧ n ≤ 4611686018427387904) (hl : l.length ≤ 1048576) (k : Nat) (hk : 1048576 < k) : laws_heldIntS.f k (laws_markIntS_list l n) n = some (n + (l.length : Int)) := by
  have h := laws_heldIntS_go l n hn hl l.length k 0 (by omega) (by omega) (by omega)
  unfold laws_heldIntS.f
  simpa using h

theorem neg_len (n : Nat) : ¬ ((1 : Int) + (n : Int) < 0) := by omega
theorem bne_no (b : Bool) : ¬ ((b != b) = true) := by simp
theorem ff : ¬ (false = true) := by simp
theorem ntt : ¬ ((!true) = true) := by simp
theorem sb {α β : Type} {o : Option α} {v : α} {f : α → Option β} {r : Option β} (h : o = some v) (k : f v = r) : o.bind f = r := by rw [h]; exact k
theorem st {α : Type} {c : Prop} [Decidable c] {a b r : α} (h : c) (k : a = r) : (if c then a else b) = r := by rw [if_pos h]; exact k
theorem sf {α : Type} {c : Prop} [Decidable c] {a b r : α} (h : ¬ c) (k : b = r) : (if c then a else b) = r := by rw [if_neg h]; exact k

def okW (l : List Int) : Bool := decide ((l.length : Int) % 16 = 0 ∧ 32 ≤ l.length ∧ l.length ≤ 192)
theorem words_impl (l : List Int) : impl_WordsOk.f l = some (okW l) := by
  unfold impl_WordsOk.f okW
  by_cases h : ((l.length : Int) % 16) = 0
  · rw [if_pos h]
    by_cases h2 : (l.length : Int) ≥ 32
    · rw [if_pos h2]
      exact congrArg some (decide_eq_decide.2 (by omega))
    · rw [if_neg h2]
      exact congrArg some (decide_eq_false (by omega)).symm
  · rw [if_neg h]
    exact congrArg some (decide_eq_false (by omega)).symm
theorem words_spec (l : List Int) (hl : l.length ≤ 1048576) : spec_WordsOk.f l = some (okW l) := by
  unfold spec_WordsOk.f okW
  by_cases h : ((l.length : Int) % 16) = 0
  · rw [if_pos h, w64 (by omega) (by omega)]
    by_cases h2 : (l.length : Int) / 16 ≥ 2
    · rw [if_pos h2]
      exact congrArg some (decide_eq_decide.2 (by omega))
    · rw [if_neg h2]
      exact congrArg some (decide_eq_false (by omega)).symm
  · rw [if_neg h]
    exact congrArg some (decide_eq_false (by omega)).symm

theorem clone_eq (l : List Int) (hl : l.length ≤ 1048576) : slices_Clone_int_int.f l = some l := by
  unfold slices_Clone_int_int.f
  rw [if_pos (by omega)]

theorem word_of (r n : Int) (hr : 0 ≤ r ∧ r ≤ 4) (hn : 0 ≤ n ∧ n ≤ 4) : spec_ShapeWord.f r n = some (16 * r + n) := by
  unfold spec_ShapeWord.f spec_ShapeOk.f
  rw [if_pos hr.1, if_pos hr.2, if_pos hn.1]
  simp only [Option.bind_some]
  rw [if_pos (by simp [hn.2]), w64 (x := 16 * r) (by omega) (by omega), w64 (by omega) (by omega)]
theorem loop1 (a r : Int) (hr : 0 ≤ r ∧ r ≤ 4) (d : Nat) : ∀ (k : Nat) (n : Int), 0 ≤ n → 5 - n = d →
    spec_ShapeOf.l1 (k + d + 1) a r n = if 16 * r + n ≤ a ∧ a ≤ 16 * r + 4 then some (r, a - 16 * r, true) else spec_ShapeOf.l0 k a (r + 1) := by
  induction d with
  | zero =>
    intro k n h0 hd
    simp only [Nat.add_zero, spec_ShapeOf.l1]
    rw [if_neg (by omega), if_neg (by omega), w64 (by omega) (by omega)]
  | succ d ih =>
    intro k n h0 hd
    rw [show k + (d + 1) + 1 = (k + d + 1) + 1 by omega, spec_ShapeOf.l1]
    rw [if_pos (by omega), word_of r n hr (by omega)]
    simp only [Option.bind_some]
    by_cases e : 16 * r + n = a
    · rw [if_pos e, if_pos (by omega), show a - 16 * r = n by omega]
    · have hi := ih k (n + 1) (by omega) (by omega)
      rw [if_neg e, w64 (by omega) (by omega)]
      refine Eq.trans hi ?_
      by_cases g : 16 * r + n ≤ a ∧ a ≤ 16 * r + 4
      · rw [if_pos g, if_pos (by omega)]
      · rw [if_neg g, if_neg (by omega)]
theorem loop0 (a : Int) (d : Nat) : ∀ (k : Nat) (r : Int), 0 ≤ r → 5 - r = d →
    spec_ShapeOf.l0 (k + 7 * d + 1) a r = if r ≤ a / 16 ∧ a / 16 ≤ 4 ∧ a % 16 ≤ 4 then some (a / 16, a % 16, true) else some (0, 0, false) := by
  induction d with
  | zero =>
    intro k r h0 hd
    simp only [spec_ShapeOf.l0]
    rw [if_neg (by omega), if_neg (by omega)]
  | succ d ih =>
    intro k r h0 hd
    rw [show k + 7 * (d + 1) + 1 = (k + 7 * d + 7) + 1 by omega, spec_ShapeOf.l0]
    rw [if_pos (by omega), show k + 7 * d + 7 = (k + 7 * d + 1) + 5 + 1 by omega, loop1 a r (by omega) 5 (k + 7 * d + 1) 0 (by omega) (by omega), ih k (r + 1) (by omega) (by omega)]
    by_cases e : 16 * r + 0 ≤ a ∧ a ≤ 16 * r + 4
    · rw [if_pos e, if_pos (by omega), show a / 16 = r by omega, show a % 16 = a - 16 * r by omega]
    · rw [if_neg e]
      by_cases g : r + 1 ≤ a / 16 ∧ a / 16 ≤ 4 ∧ a % 16 ≤ 4
      · rw [if_pos g, if_pos (by omega)]
      · rw [if_neg g, if_neg (by omega)]
theorem impl_eq (a : Int) (ha : a ≤ 9223372036854775807) : impl_ShapeOf.f a = if 0 ≤ a / 16 ∧ a / 16 ≤ 4 ∧ a % 16 ≤ 4 then some (a / 16, a % 16, true) else some (0, 0, false) := by
  unfold impl_ShapeOf.f
  by_cases h : a < 0
  · rw [if_pos h, if_neg (by omega)]
  have h0 : 0 ≤ a := by omega
  rw [if_neg h, tdiv_nn h0, tmod_nn h0, w64 (by omega) (by omega)]
  unfold impl_ShapeOk.f
  rw [if_pos (by omega)]
  by_cases g : a / 16 ≤ 4
  · rw [if_pos g, if_pos (by omega)]
    by_cases m : a % 16 ≤ 4
    · rw [if_pos (by omega)]
      simp [m]
    · rw [if_neg (by omega)]
      simp [m]
  · rw [if_neg g, if_neg (by omega)]
    rfl

def seg (l : List Int) (i n : Nat) : List Int := (l.drop i).take n
theorem seg_len (l : List Int) (i n : Nat) (h : i + n ≤ l.length) : (seg l i n).length = n := by
  unfold seg
  rw [List.length_take, List.length_drop]
  omega
theorem seg_succ (l : List Int) (i n : Nat) (h : i + n < l.length) : seg l i (n + 1) = seg l i n ++ [l[i + n]] := by
  unfold seg
  rw [List.take_succ_eq_append_getElem (by rw [List.length_drop]; omega)]
  simp
theorem seg_cut (l : List Int) (i n : Nat) : (l.take (i + n)).drop i = seg l i n := by
  unfold seg
  rw [List.drop_take, Nat.add_sub_cancel_left]
def fitB (l : List Int) (a n : Int) : Bool := okW l && decide (16 ≤ a ∧ a < (l.length : Int) ∧ a % 16 + n ≤ 16)
theorem impl_fit (l : List Int) (a n : Int) (hl : l.length ≤ 1048576) (hn : 0 ≤ n ∧ n ≤ 100) : impl_fits.f l a n = some (fitB l a n) := by
  unfold impl_fits.f fitB
  rw [words_impl l]
  simp only [Option.bind_some]
  cases okW l with
  | false => rfl
  | true =>
    rw [if_pos rfl, Bool.true_and]
    by_cases h1 : a ≥ 16
    · rw [if_pos h1]
      by_cases h2 : a < (l.length : Int)
      · rw [if_pos h2, tmod_nn (by omega), w64 (by omega) (by omega)]
        exact congrArg some (decide_eq_decide.2 (by omega))
      · rw [if_neg h2]
        exact congrArg some (decide_eq_false (by omega)).symm
    · rw [if_neg h1]
      exact congrArg some (decide_eq_false (by omega)).symm
theorem spec_fit (l : List Int) (a n : Int) (hl : l.length ≤ 1048576) (hn : 2 ≤ n ∧ n ≤ 16) : spec_l3Fits.f l a n = some (fitB l a n) := by
  unfold spec_l3Fits.f fitB
  rw [words_spec l hl]
  simp only [Option.bind_some]
  cases okW l with
  | false => rfl
  | true =>
    rw [if_pos rfl, Bool.true_and, if_pos (by omega), if_pos (by omega)]
    by_cases h1 : a ≥ 16
    · rw [if_pos h1]
      by_cases h2 : a < (l.length : Int)
      · rw [if_pos h2, w64 (x := a + n) (by omega) (by omega), w64 (x := a + n - 1) (by omega) (by omega)]
        unfold spec_RegionOf.f
        rw [if_neg (by omega), if_neg (by omega), tdiv_nn (by omega), tdiv_nn (by omega), w64 (by omega) (by omega), w64 (by omega) (by omega)]
        simp only [Option.bind_some]
        refine congrArg some ?_
        rw [Bool.eq_iff_iff]
        simp
        omega
      · rw [if_neg h2]
        exact congrArg some (decide_eq_false (by omega)).symm
    · rw [if_neg h1]
      exact congrArg some (decide_eq_false (by omega)).symm
theorem size_impl (r n : Int) (hr : 0 ≤ r ∧ r ≤ 4) (hn : 0 ≤ n ∧ n ≤ 4) : impl_ShapeSize.f r n = some (2 + r + n) := by
  unfold impl_ShapeSize.f impl_ShapeOk.f
  rw [if_pos hr.1, if_pos hr.2, if_pos hn.1]
  simp only [Option.bind_some]
  rw [if_pos (by simp [hn.2]), w64 (x := 2 + r) (by omega) (by omega), w64 (by omega) (by omega)]
theorem size_spec (r n : Int) (hr : 0 ≤ r ∧ r ≤ 4) (hn : 0 ≤ n ∧ n ≤ 4) : spec_ShapeSize.f r n = some (2 + r + n) := size_impl r n hr hn
theorem spec_nums (l : List Int) (a r n : Nat) (A R N m1 m2 m3 : Int) (refs : List Int) (hA : A = (a : Int)) (hR : R = (r : Int)) (hN : N = (n : Int)) (hr : r ≤ 4) (hn : n ≤ 4) (ha : a ≤ 1000) (hl : a + 2 + r + n ≤ l.length) (d : Nat) : ∀ (k i : Nat), i ≤ n → n - i = d → d < k →
    spec_ThingAt.l1 k l A (i : Int) R N A m1 m2 m3 refs (seg l (a + 2 + r) i) = some (A, m1, m2, m3, refs, seg l (a + 2 + r) n, true) := by
  subst hA hR hN
  induction d with
  | zero =>
    intro k i hi hd hk
    obtain ⟨k, rfl⟩ : ∃ m, k = m + 1 := ⟨k - 1, by omega⟩
    simp only [spec_ThingAt.l1]
    rw [if_neg (by omega), show i = n by omega]
  | succ d ih =>
    intro k i hi hd hk
    obtain ⟨k, rfl⟩ : ∃ m, k = m + 1 := ⟨k - 1, by omega⟩
    simp only [spec_ThingAt.l1]
    rw [if_pos (by omega), w64 (x := (a : Int) + 2) (by omega) (by omega), w64 (x := (a : Int) + 2 + r) (by omega) (by omega), w64 (x := (a : Int) + 2 + r + i) (by omega) (by omega), if_pos (by omega), if_pos (by omega),
      if_pos (by rw [seg_len l _ _ (by omega)]; omega), wnext i (by omega), show (a : Int) + 2 + r + i = ((a + 2 + r + i : Nat) : Int) by omega, rd_at l (a + 2 + r + i) (by omega), ← seg_succ l _ _ (by omega)]
    exact ih k (i + 1) (by omega) (by omega) (by omega)
theorem spec_refs (l : List Int) (a r n : Nat) (A R N m1 m2 m3 : Int) (hA : A = (a : Int)) (hR : R = (r : Int)) (hN : N = (n : Int)) (hr : r ≤ 4) (hn : n ≤ 4) (ha : a ≤ 1000) (hl : a + 2 + r + n ≤ l.length) (d : Nat) : ∀ (k i : Nat), i ≤ r → r - i = d → d + 6 < k →
    spec_ThingAt.l0 k l A (i : Int) R N A m1 m2 m3 (seg l (a + 2) i) = some (A, m1, m2, m3, seg l (a + 2) r, seg l (a + 2 + r) n, true) := by
  induction d with
  | zero =>
    intro k i hi hd hk
    obtain ⟨k, rfl⟩ : ∃ m, k = m + 1 := ⟨k - 1, by omega⟩
    simp only [spec_ThingAt.l0]
    rw [if_neg (by omega), show i = r by omega]
    have := spec_nums l a r n A R N m1 m2 m3 (seg l (a + 2) r) hA hR hN hr hn ha hl n k 0 (by omega) (by omega) (by omega)
    simpa [seg] using this
  | succ d ih =>
    intro k i hi hd hk
    obtain ⟨k, rfl⟩ : ∃ m, k = m + 1 := ⟨k - 1, by omega⟩
    simp only [spec_ThingAt.l0]
    rw [if_pos (by omega), w64 (x := A + 2) (by omega) (by omega), w64 (x := A + 2 + i) (by omega) (by omega), if_pos (by omega), if_pos (by omega),
      if_pos (by rw [seg_len l _ _ (by omega)]; omega), wnext i (by omega), show A + 2 + i = ((a + 2 + i : Nat) : Int) by omega, rd_at l (a + 2 + i) (by omega), ← seg_succ l _ _ (by omega)]
    exact ih k (i + 1) (by omega) (by omega) (by omega)
abbrev Thing7 := Int × Int × Int × Int × List Int × List Int × Bool
def noThing : Thing7 := (0, 0, 0, 0, [], [], false)
def isThing (l : List Int) (a : Int) : Prop := fitB l a 2 = true ∧ (0 ≤ rd l (a + 1) / 16 ∧ rd l (a + 1) / 16 ≤ 4 ∧ rd l (a + 1) % 16 ≤ 4) ∧ fitB l a (2 + rd l (a + 1) / 16 + rd l (a + 1) % 16) = true
def theThing (l : List Int) (a : Int) : Thing7 := (a, rd l a, rd l (a + 1) / 16, rd l (a + 1) % 16, seg l (a.toNat + 2) (rd l (a + 1) / 16).toNat, seg l (a.toNat + 2 + (rd l (a + 1) / 16).toNat) (rd l (a + 1) % 16).toNat, true)
theorem fit_room {l : List Int} {a n : Int} (h : fitB l a n = true) : okW l = true ∧ 16 ≤ a ∧ a + n ≤ (l.length : Int) ∧ l.length ≤ 192 := by
  unfold fitB at h
  rw [Bool.and_eq_true] at h
  obtain ⟨h1, h2⟩ := h
  have h2 := of_decide_eq_true h2
  have h3 := of_decide_eq_true h1
  exact ⟨h1, h2.1, by omega, by omega⟩
theorem thing_both (l : List Int) (a : Int) (hl : l.length ≤ 1048576) (hw : ∀ x ∈ l, (Lit.int .i64 x).wf = true) :
    (isThing l a ∧ ∀ K, 1000 < K → spec_ThingAt.f K l a = some (theThing l a) ∧ impl_ThingAt.f K l a = some (theThing l a)) ∨
    (¬ isThing l a ∧ ∀ K, 1000 < K → spec_ThingAt.f K l a = some noThing ∧ impl_ThingAt.f K l a = some noThing) := by
  cases h2 : fitB l a 2 with
  | false =>
    refine .inr ⟨fun h => by simp [isThing, h2] at h, fun K hK => ?_⟩
    unfold spec_ThingAt.f impl_ThingAt.f
    rw [spec_fit l a 2 hl (by omega), impl_fit l a 2 hl (by omega), h2]
    exact ⟨rfl, rfl⟩
  | true =>
    obtain ⟨_, a0, a1, a2⟩ := fit_room h2
    have hs : ∃ s, rd l (a + 1) = s ∧ s ≤ 9223372036854775807 := by
      refine ⟨_, rfl, ?_⟩
      have : a + 1 = ((a + 1).toNat : Int) := by omega
      rw [this, rd_at l (a + 1).toNat (by omega)]
      exact (b64 (hw _ (List.getElem_mem _))).2
    obtain ⟨s, hse, hsb⟩ := hs
    have hspec : ∀ K, 1000 < K → spec_ShapeOf.f K s = if 0 ≤ s / 16 ∧ s / 16 ≤ 4 ∧ s % 16 ≤ 4 then some (s / 16, s % 16, true) else some (0, 0, false) := by
      intro K hK
      have := loop0 s 5 (K - 36) 0 (by omega) (by omega)
      rw [show K - 36 + 7 * 5 + 1 = K by omega] at this
      exact this
    have himpl := impl_eq s hsb
    by_cases g : 0 ≤ s / 16 ∧ s / 16 ≤ 4 ∧ s % 16 ≤ 4
    · obtain ⟨r, hr⟩ := Int.eq_ofNat_of_zero_le g.1
      obtain ⟨n, hn⟩ := Int.eq_ofNat_of_zero_le (show 0 ≤ s % 16 by omega)
      obtain ⟨b, hb⟩ := Int.eq_ofNat_of_zero_le (show 0 ≤ a by omega)
      cases h3 : fitB l a (2 + s / 16 + s % 16) with
      | false =>
        refine .inr ⟨(fun h => by have := h.2.2; rw [hse, h3] at this; cases this), fun K hK => ?_⟩
        obtain ⟨K, rfl⟩ : ∃ m, K = m + 1 := ⟨K - 1, by omega⟩
        unfold spec_ThingAt.f impl_ThingAt.f
        rw [spec_fit l a 2 hl (by omega), impl_fit l a 2 hl (by omega), h2]
        simp only [Option.bind_some, if_true]
        rw [w64 (x := a + 1) (by omega) (by omega), if_pos (by omega), if_pos (by omega), if_pos (by omega), if_pos (by omega), hse, hspec (K + 1) (by omega), himpl, if_pos g]
        simp only [Option.bind_some, if_true]
        rw [size_spec _ _ (by omega) (by omega), size_impl _ _ (by omega) (by omega)]
        simp only [Option.bind_some]
        rw [spec_fit l a _ hl (by omega), impl_fit l a _ hl (by omega), h3]
        simp only [Option.bind_some, Bool.not_false, spec_ThingAt.j0, impl_ThingAt.j0, if_true]
        exact ⟨rfl, rfl⟩
      | true =>
        obtain ⟨_, c0, c1, c2⟩ := fit_room h3
        refine .inl ⟨⟨h2, by rw [hse]; exact g, by rw [hse]; exact h3⟩, fun K hK => ?_⟩
        obtain ⟨K, rfl⟩ : ∃ m, K = m + 1 := ⟨K - 1, by omega⟩
        unfold spec_ThingAt.f impl_ThingAt.f
        rw [spec_fit l a 2 hl (by omega), impl_fit l a 2 hl (by omega), h2]
        simp only [Option.bind_some, if_true]
        rw [w64 (x := a + 1) (by omega) (by omega), if_pos (by omega), if_pos (by omega), if_pos (by omega), if_pos (by omega), hse, hspec (K + 1) (by omega), himpl, if_pos g]
        simp only [Option.bind_some, if_true]
        rw [size_spec _ _ (by omega) (by omega), size_impl _ _ (by omega) (by omega)]
        simp only [Option.bind_some]
        rw [spec_fit l a _ hl (by omega), impl_fit l a _ hl (by omega), h3]
        simp only [Option.bind_some, Bool.not_true, spec_ThingAt.j0, impl_ThingAt.j0, Bool.false_eq_true, if_false]
        have hth : theThing l a = (a, rd l a, s / 16, s % 16, seg l (b + 2) r, seg l (b + 2 + r) n, true) := by
          unfold theThing
          rw [hse, hr, hn, hb]
          simp
        rw [hth]
        refine ⟨?_, ?_⟩
        · rw [if_pos (by omega), if_pos (by omega)]
          have := spec_refs l b r n a (s / 16) (s % 16) (rd l a) (s / 16) (s % 16) (by omega) (by omega) (by omega) (by omega) (by omega) (by omega) (by omega) r K 0 (by omega) (by omega) (by omega)
          simpa [seg] using this
        · rw [if_pos (by omega), if_pos (by omega), w64 (x := a + 2) (by omega) (by omega), w64 (x := a + 2 + s / 16) (by omega) (by omega), w64 (x := a + 2 + s / 16 + s % 16) (by omega) (by omega),
            if_pos (by omega), if_pos (by omega), if_pos (by omega), show (a + 2 + s / 16).toNat = b + 2 + r by omega, show (a + 2).toNat = b + 2 by omega, seg_cut, clone_eq _ (by rw [seg_len l _ _ (by omega)]; omega)]
          simp only [Option.bind_some]
          rw [if_pos (by omega), if_pos (by omega), if_pos (by omega), show (a + 2 + s / 16 + s % 16).toNat = b + 2 + r + n by omega, seg_cut, clone_eq _ (by rw [seg_len l _ _ (by omega)]; omega)]
          rfl
    · refine .inr ⟨(fun h => by have := h.2.1; rw [hse] at this; exact g this), fun K hK => ?_⟩
      obtain ⟨K, rfl⟩ : ∃ m, K = m + 1 := ⟨K - 1, by omega⟩
      unfold spec_ThingAt.f impl_ThingAt.f
      rw [spec_fit l a 2 hl (by omega), impl_fit l a 2 hl (by omega), h2]
      simp only [Option.bind_some, if_true]
      rw [w64 (x := a + 1) (by omega) (by omega), if_pos (by omega), if_pos (by omega), if_pos (by omega), if_pos (by omega), hse, hspec (K + 1) (by omega), himpl, if_neg g]
      simp only [Option.bind_some, Bool.false_eq_true, if_false, spec_ThingAt.j0, impl_ThingAt.j0, if_true]
      exact ⟨rfl, rfl⟩

theorem seg_cons (l : List Int) (i n : Nat) (h : i < l.length) : seg l i (n + 1) = l[i] :: seg l (i + 1) n := by
  unfold seg
  rw [List.drop_eq_getElem_cons h, List.take_succ_cons]
theorem paste_set (j : Nat) (v : Int) : ∀ (ys l : List Int) (o : Nat), j < o → pasteL (l.set j v) o ys = (pasteL l o ys).set j v
  | [], _, _, _ => rfl
  | y :: r, l, o, h => by
    rw [pasteL, pasteL, List.set_comm v y (by omega)]
    exact paste_set j v r (l.set o y) (o + 1) (by omega)
def thingSize (l : List Int) (a : Int) : Int := 2 + rd l (a + 1) / 16 + rd l (a + 1) % 16
def wrote (l : List Int) (a b : Nat) (sz : Nat) : List Int := ((pasteL l (b + 1) (seg l (a + 1) (sz - 1))).set b (b : Int)).set a (b : Int)
theorem wrote_impl (l : List Int) (a b sz : Nat) (ha : a < l.length) (hs : 0 < sz) (hne : a ≠ b) : ((pasteL l b (seg l a sz)).set a (b : Int)).set b (b : Int) = wrote l a b sz := by
  obtain ⟨s, rfl⟩ : ∃ s, sz = s + 1 := ⟨sz - 1, by omega⟩
  rw [seg_cons l a s ha, pasteL, paste_set b _ _ l (b + 1) (by omega), List.set_comm _ _ hne, List.set_set, wrote, Nat.add_sub_cancel]
theorem copy_go (l : List Int) (a b sz : Nat) (A B SZ : Int) (hA : A = (a : Int)) (hB : B = (b : Int)) (hS : SZ = (sz : Int)) (hl : l.length ≤ 192) (ha : a + sz ≤ l.length) (hb : b + sz ≤ l.length) (h2 : 2 ≤ sz) (d : Nat) : ∀ (i k : Nat) (xs : List Int), xs.length = l.length → 1 ≤ i → i + d = sz → d < k →
    spec_ThingCopy.l0 k l A B SZ xs (i : Int) = some (((pasteL xs (b + i) (seg l (a + i) d)).set b (b : Int)).set a (b : Int), true) := by
  subst hA hB hS
  induction d with
  | zero =>
    intro i k xs hx hi hd hk
    obtain ⟨k, rfl⟩ : ∃ m, k = m + 1 := ⟨k - 1, by omega⟩
    simp only [spec_ThingCopy.l0]
    rw [if_neg (by omega), if_pos (by omega), if_pos (by omega), if_pos (by omega), if_pos (by omega), show seg l (a + i) 0 = [] by simp [seg], pasteL, show (b : Int).toNat = b by omega, show (a : Int).toNat = a by omega]
  | succ d ih =>
    intro i k xs hx hi hd hk
    obtain ⟨k, rfl⟩ : ∃ m, k = m + 1 := ⟨k - 1, by omega⟩
    simp only [spec_ThingCopy.l0]
    rw [if_pos (by omega), w64 (x := (a : Int) + i) (by omega) (by omega), w64 (x := (b : Int) + i) (by omega) (by omega), if_pos (by omega), if_pos (by omega), if_pos (by omega), if_pos (by omega), wnext i (by omega), show ((b : Int) + i).toNat = b + i by omega,
      show (a : Int) + i = ((a + i : Nat) : Int) by omega, rd_at l (a + i) (by omega)]
    rw [ih (i + 1) k (xs.set (b + i) l[a + i]) (by simpa using hx) (by omega) (by omega) (by omega), seg_cons l (a + i) d (by omega), pasteL]
    rfl
def copyOf (l : List Int) (a b : Int) (ok : Bool) : List Int × Bool := if ok = true ∧ fitB l b (thingSize l a) = true ∧ ¬ (b < a + thingSize l a ∧ a < b + thingSize l a) then (wrote l a.toNat b.toNat (thingSize l a).toNat, true) else ([], false)
theorem copy_both (l : List Int) (a b : Int) (hl : l.length ≤ 1048576) (hw : ∀ x ∈ l, (Lit.int .i64 x).wf = true) : ∃ r : List Int × Bool, r.1.length ≤ l.length ∧ ∀ K, 1002 < K → spec_ThingCopy.f K l a b = some r ∧ impl_ThingCopy.f K l a b = some r := by
  rcases thing_both l a hl hw with ⟨h, hk⟩ | ⟨_, hk⟩
  · refine ⟨copyOf l a b true, ?_, fun K hK => ?_⟩
    · unfold copyOf
      split
      · simp [wrote, pasteL_length]
      · simp
    · obtain ⟨hS, hI⟩ := hk K (by omega)
      unfold spec_ThingCopy.f impl_ThingCopy.f copyOf
      rw [hS, hI]
      obtain ⟨h1, h2, h3⟩ := h
      obtain ⟨_, a0, a1, a2⟩ := fit_room h3
      have hsz : 2 ≤ thingSize l a ∧ thingSize l a ≤ 10 := by
        unfold thingSize
        omega
      have e3 : a + thingSize l a ≤ (l.length : Int) := a1
      have es : spec_ShapeSize.f (theThing l a).2.2.1 (theThing l a).2.2.2.1 = some (thingSize l a) := size_spec _ _ ⟨by show 0 ≤ rd l (a + 1) / 16; omega, by show rd l (a + 1) / 16 ≤ 4; omega⟩ ⟨by show 0 ≤ rd l (a + 1) % 16; omega, by show rd l (a + 1) % 16 ≤ 4; omega⟩
      have ei : ∀ x0 x1 (x4 x5 : List Int), impl_Thing_size.f x0 x1 (theThing l a).2.2.1 (theThing l a).2.2.2.1 x4 x5 = some (thingSize l a) := by
        intro x0 x1 x4 x5
        unfold impl_Thing_size.f
        have : impl_ShapeSize.f (theThing l a).2.2.1 (theThing l a).2.2.2.1 = some (thingSize l a) := size_impl _ _ ⟨by show 0 ≤ rd l (a + 1) / 16; omega, by show rd l (a + 1) / 16 ≤ 4; omega⟩ ⟨by show 0 ≤ rd l (a + 1) % 16; omega, by show rd l (a + 1) % 16 ≤ 4; omega⟩
        rw [this]
        rfl
      have hok : (theThing l a).2.2.2.2.2.2 = true := rfl
      simp only [Option.bind_some]
      rw [if_pos hok, if_pos hok, es, ei]
      generalize thingSize l a = sz at hsz e3 es ei ⊢
      clear hS hI hk h1 h2 h3 es a1
      generalize (theThing l a).1 = y0 at ei ⊢
      generalize (theThing l a).2.1 = y1 at ei ⊢
      generalize (theThing l a).2.2.1 = y2 at ei ⊢
      generalize (theThing l a).2.2.2.1 = y3 at ei ⊢
      generalize (theThing l a).2.2.2.2.1 = y4 at ei ⊢
      generalize (theThing l a).2.2.2.2.2.1 = y5 at ei ⊢
      simp only [Option.bind_some]
      rw [spec_fit l b sz hl (by omega), impl_fit l b sz hl (by omega)]
      have bs : spec_ThingCopy.j0 K l a b sz true = some ([], false) := by
        obtain ⟨K, rfl⟩ : ∃ m, K = m + 1 := ⟨K - 1, by omega⟩
        simp [spec_ThingCopy.j0]
      have bi : impl_ThingCopy.j0 K l a b true y0 y1 y2 y3 y4 y5 = some ([], false) := by
        obtain ⟨K, rfl⟩ : ∃ m, K = m + 1 := ⟨K - 1, by omega⟩
        simp [impl_ThingCopy.j0]
      simp only [Option.bind_some]
      rw [bs, bi]
      cases hf : fitB l b sz with
      | false => simp
      | true =>
        obtain ⟨_, b0, b1, _⟩ := fit_room hf
        rw [if_pos rfl, if_pos rfl]
        simp only [Option.bind_some]
        rw [w64 (x := a + sz) (by omega) (by omega), w64 (x := b + sz) (by omega) (by omega)]
        obtain ⟨m, hm⟩ := Int.eq_ofNat_of_zero_le (show 0 ≤ a by omega)
        obtain ⟨n, hn⟩ := Int.eq_ofNat_of_zero_le (show 0 ≤ b by omega)
        obtain ⟨s, hs⟩ := Int.eq_ofNat_of_zero_le (show 0 ≤ sz by omega)
        have good : ¬ (b < a + sz ∧ a < b + sz) → spec_ThingCopy.j0 K l a b sz false = some (wrote l a.toNat b.toNat sz.toNat, true) ∧ impl_ThingCopy.j0 K l a b false y0 y1 y2 y3 y4 y5 = some (wrote l a.toNat b.toNat sz.toNat, true) := by
          intro hno
          obtain ⟨K, rfl⟩ : ∃ m, K = m + 1 := ⟨K - 1, by omega⟩
          refine ⟨?_, ?_⟩
          · simp only [spec_ThingCopy.j0, Bool.false_eq_true, if_false, Option.bind_some]
            rw [if_pos (by simp; omega), List.nil_append]
            have := copy_go l m n s a b sz hm hn hs a2 (by omega) (by omega) (by omega) (s - 1) 1 K l rfl (by omega) (by omega) (by omega)
            rw [show a.toNat = m by omega, show b.toNat = n by omega, show sz.toNat = s by omega]
            exact this
          · simp only [impl_ThingCopy.j0, Bool.false_eq_true, if_false]
            rw [clone_eq l hl, ei]
            simp only [Option.bind_some]
            rw [w64 (x := a + sz) (by omega) (by omega), if_pos (by omega), if_pos (by omega), if_pos (by omega), if_pos (by omega), if_pos (by omega), if_pos (by omega), if_pos (by omega)]
            rw [show (a + sz).toNat = m + s by omega, show a.toNat = m by omega, show b.toNat = n by omega, show sz.toNat = s by omega, seg_cut, List.take_of_length_le (by rw [seg_len l _ _ (by omega)]; omega), hn]
            rw [wrote_impl l m n s (by omega) (by omega) (by omega)]
        by_cases g : b < a + sz
        · rw [if_pos g, if_pos g]
          by_cases g2 : a < b + sz
          · rw [decide_eq_true g2, bs, bi, if_neg (fun h => h.2.2 ⟨g, g2⟩)]
            exact ⟨rfl, rfl⟩
          · rw [decide_eq_false g2, if_pos ⟨by trivial, by trivial, fun h => g2 h.2⟩]
            exact good (fun h => g2 h.2)
        · rw [if_neg g, if_neg g, if_pos ⟨by trivial, by trivial, fun h => g h.1⟩]
          exact good (fun h => g h.1)
  · refine ⟨([], false), by simp, fun K hK => ?_⟩
    obtain ⟨hS, hI⟩ := hk K (by omega)
    unfold spec_ThingCopy.f impl_ThingCopy.f
    rw [hS, hI]
    have bi : ∀ y0 y1 y2 y3 y4 y5, impl_ThingCopy.j0 K l a b true y0 y1 y2 y3 y4 y5 = some ([], false) := by
      intro y0 y1 y2 y3 y4 y5
      obtain ⟨K, rfl⟩ : ∃ m, K = m + 1 := ⟨K - 1, by omega⟩
      simp [impl_ThingCopy.j0]
    simp only [Option.bind_some]
    rw [bi]
    exact ⟨rfl, rfl⟩
theorem FnExactThingCopy (l : List Int) (a b : Int) (hg : l.length ≤ maxLen ∧ ∀ x ∈ l, (Lit.int .i64 x).wf = true) (_ : (Lit.int .i64 a).wf = true) (_ : (Lit.int .i64 b).wf = true) : ∃ k, laws_FnExactThingCopy.f k l a b = some true := by
  obtain ⟨K, hK⟩ : ∃ K, 1048576 < K := ⟨1048577, by omega⟩
  refine ⟨K + 3, ?_⟩
  by_cases h : (l.length : Int) > 1048576
  · unfold laws_FnExactThingCopy.f
    rw [if_pos h]
  have hl : l.length ≤ 1048576 := by omega
  have hn : ¬ (l.length : Int) > 1048576 := h
  obtain ⟨r, hr0, hk⟩ := copy_both l a b hl hg.2
  have hr : r.1.length ≤ 1048576 := Nat.le_trans hr0 hl
  have hS : ∀ K, 1002 < K → spec_ThingCopy.f K l a b = some r := fun K hK => (hk K hK).1
  have hI : ∀ K, 1002 < K → impl_ThingCopy.f K l a b = some r := fun K hK => (hk K hK).2
  unfold laws_FnExactThingCopy.f
  repeat (first
    | (with_reducible refine st rfl ?_)
    | (with_reducible refine sf (neg_len _) ?_)
    | (with_reducible refine sf (bne_no _) ?_)
    | (with_reducible refine sf ff ?_)
    | (with_reducible refine sf ntt ?_)
    | (with_reducible refine sf hn ?_)
    | ((with_reducible refine sb (hS _ ?_) ?_); omega; try dsimp only)
    | ((with_reducible refine sb (hI _ ?_) ?_); omega; try dsimp only)
    | ((with_reducible refine sb (laws_toIntS_eq _ hl _ ?_) ?_); omega; try dsimp only)
    | ((with_reducible refine sb (laws_eqIntS_self _ hl _ ?_) ?_); omega; try dsimp only)
    | ((with_reducible refine sb (laws_eqIntS_self _ hr _ ?_) ?_); omega; try dsimp only)
    | ((with_reducible refine sb (laws_markIntS_eq _ 1 ?_ hl _ ?_) ?_); omega; omega; try dsimp only)
    | ((with_reducible refine sb (laws_markIntS_eq _ 1 ?_ hr _ ?_) ?_); omega; omega; try dsimp only)
    | ((with_reducible refine sb (laws_heldIntS_eq _ 1 ?_ hr _ ?_) ?_); omega; omega; try dsimp only)
    | rw [laws_FnExactThingCopy.j0]
    | rw [laws_FnExactThingCopy.j1]
    | rw [laws_FnExactThingCopy.j2]
    | (with_reducible rfl))

end Go.Proofs.Ytaihpphekkiemaa.Pure
