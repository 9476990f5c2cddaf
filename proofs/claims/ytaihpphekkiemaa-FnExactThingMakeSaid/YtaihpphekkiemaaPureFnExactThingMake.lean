/- ThingMake of the program answers as the reference does, at every slice of ints of at most 2^20 elements, every int and every shape, leaves its argument alone, and answers with new memory each time. No condition. -/
import Derived.Test.YtaihpphekkiemaaQFnExactThingMakex3
namespace Go.Proofs.Ytaihpphekkiemaa.Pure
open Go.RowKit Go.Proofs.Ytaihpphekkiemaa.QFnExactThingMake Go.Proofs.YtaihpphekkiemaaW.PrintWords Go.Proofs.YtaihpphekkiemaaW.PrintLast Go.Proofs.YtaihpphekkiemaaW.PrintMore
set_option linter.unusedVariables false
set_option linter.unusedSimpArgs false

theorem w64 {x : Int} (h0 : -9223372036854775808 ≤ x) (h1 : x ≤ 9223372036854775807) : wrap64 x = x := by
  unfold wrap64
  omega
theorem wnext (i : Nat) (h : i < 9223372036854775807) : wrap64 ((i : Int) + 1) = ((i + 1 : Nat) : Int) := by
  unfold wrap64
  omega
theorem rdOf_at {α : Type} (d : α) (l : List α) (i : Nat) (h : i < l.length) : rdOf d l (i : Int) = l[i] := by
  simp [rdOf, List.getD, h]
theorem rd_at (l : List Int) (i : Nat) (h : i < l.length) : rd l (i : Int) = l[i] := by
  simp [rd, List.getD, h]
theorem set_step {α : Type} (l m : List α) (i : Nat) (v : α) (hl : l.length = m.length) (hi : i < m.length) (hv : m[i]? = some v)
    (hp : ∀ j, j < i → l[j]? = m[j]?) : (l.set i v).length = m.length ∧ ∀ j, j < i + 1 → (l.set i v)[j]? = m[j]? := by
  refine ⟨by simp [hl], fun j hj => ?_⟩
  rw [List.getElem?_set]
  by_cases e : i = j
  · subst e
    rw [if_pos rfl, if_pos (by omega), hv]
  · rw [if_neg e]
    exact hp j (by omega)
theorem all_eq {α : Type} (l m : List α) (hl : l.length = m.length) (hp : ∀ j, j < m.length → l[j]? = m[j]?) : l = m := by
  apply List.ext_getElem?
  intro j
  by_cases hj : j < m.length
  · exact hp j hj
  · rw [List.getElem?_eq_none (by omega), List.getElem?_eq_none (by omega)]

theorem b64 {n : Int} (h : (Lit.int .i64 n).wf = true) : -9223372036854775808 ≤ n ∧ n ≤ 9223372036854775807 := by
  simp [Lit.wf, IntKind.min, IntKind.max, IntKind.signed, IntKind.bits] at h
  omega
theorem b8 {n : Int} (h : (Lit.int .u8 n).wf = true) : 0 ≤ n ∧ n ≤ 255 := by
  simp [Lit.wf, IntKind.min, IntKind.max, IntKind.signed, IntKind.bits] at h
  omega

theorem tdiv_nn {a : Int} (h : 0 ≤ a) (b : Int) : Int.tdiv a b = a / b := Int.tdiv_eq_ediv_of_nonneg h
theorem tmod_nn {a : Int} (h : 0 ≤ a) (b : Int) : Int.tmod a b = a % b := Int.tmod_eq_emod_of_nonneg h

theorem laws_toIntS_go (l : List Int) (hl : l.length ≤ 1048576) (d : Nat) : ∀ (k i : Nat) (acc : List Int), acc.length = l.length → i ≤ l.length → l.length - i = d → d < k →
    (∀ j, j < i → acc[j]? = l[j]?) → laws_toIntS.l0 k l acc (i : Int) = some l := by
  induction d with
  | zero =>
    intro k i acc ha hi hd hk hp
    obtain ⟨k, rfl⟩ : ∃ m, k = m + 1 := ⟨k - 1, by omega⟩
    simp only [laws_toIntS.l0]
    rw [if_neg (by omega)]
    exact congrArg some (all_eq acc l ha (fun j hj => hp j (by omega)))
  | succ d ih =>
    intro k i acc ha hi hd hk hp
    obtain ⟨k, rfl⟩ : ∃ m, k = m + 1 := ⟨k - 1, by omega⟩
    simp only [laws_toIntS.l0]
    rw [if_pos (by omega), if_pos (by omega), if_pos (by omega), wnext i (by omega), rd_at l i (by omega), Int.toNat_natCast]
    obtain ⟨h1, h2⟩ := set_step acc l i l[i] ha (by omega) (by simp) hp
    exact ih k (i + 1) _ h1 (by omega) (by omega) (by omega) h2
theorem laws_toIntS_eq (l : List Int) (hl : l.length ≤ 1048576) (k : Nat) (hk : 1048576 < k) : laws_toIntS.f k l = some l := by
  unfold laws_toIntS.f
  rw [if_pos (by omega), if_pos (by omega)]
  exact laws_toIntS_go l hl l.length k 0 _ (by simp) (by omega) (by omega) (by omega) (by intro j hj; omega)

theorem laws_eqIntS_go (l : List Int) (hl : l.length ≤ 1048576) (d : Nat) : ∀ (k i : Nat), i ≤ l.length → l.length - i = d → d < k → laws_eqIntS.l0 k l l (i : Int) = some true := by
  induction d with
  | zero =>
    intro k i hi hd hk
    obtain ⟨k, rfl⟩ : ∃ m, k = m + 1 := ⟨k - 1, by omega⟩
    simp only [laws_eqIntS.l0]
    rw [if_neg (by omega)]
  | succ d ih =>
    intro k i hi hd hk
    obtain ⟨k, rfl⟩ : ∃ m, k = m + 1 := ⟨k - 1, by omega⟩
    simp only [laws_eqIntS.l0]
    rw [if_pos (by omega), if_pos (by omega), if_pos (by omega), wnext i (by omega), if_pos trivial]
    exact ih k (i + 1) (by omega) (by omega) (by omega)
theorem laws_eqIntS_self (l : List Int) (hl : l.length ≤ 1048576) (k : Nat) (hk : 1048576 < k) : laws_eqIntS.f k l l = some true := by
  unfold laws_eqIntS.f
  rw [if_pos rfl]
  exact laws_eqIntS_go l hl l.length k 0 (by omega) (by omega) (by omega)

def laws_markIntS_list (l : List Int) (n : Int) : List Int := (List.range l.length).map fun j : Nat => (fun m : Int => m) (n + (j : Int))
theorem laws_markIntS_list_length (l : List Int) (n : Int) : (laws_markIntS_list l n).length = l.length := by simp [laws_markIntS_list]
theorem laws_markIntS_list_at (l : List Int) (n : Int) (i : Nat) (h : i < l.length) : (laws_markIntS_list l n)[i]? = some ((fun m : Int => m) (n + (i : Int))) := by simp [laws_markIntS_list, h]
theorem laws_markIntS_go (l : List Int) (n : Int) (hn : 0 ≤ n ∧ n ≤ 4611686018427387904) (hl : l.length ≤ 1048576) (d : Nat) : ∀ (k i : Nat) (acc : List Int), acc.length = (laws_markIntS_list l n).length → i ≤ l.length → l.length - i = d → d < k →
    (∀ j, j < i → acc[j]? = (laws_markIntS_list l n)[j]?) → laws_markIntS.l0 k acc (n + (i : Int)) (i : Int) = some (n + (l.length : Int), laws_markIntS_list l n) := by
  induction d with
  | zero =>
    intro k i acc ha hi hd hk hp
    obtain ⟨k, rfl⟩ : ∃ m, k = m + 1 := ⟨k - 1, by omega⟩
    have hL := laws_markIntS_list_length l n
    simp only [laws_markIntS.l0]
    rw [if_neg (by omega), all_eq acc (laws_markIntS_list l n) ha (fun j hj => hp j (by omega)), show i = l.length by omega]
  | succ d ih =>
    intro k i acc ha hi hd hk hp
    obtain ⟨k, rfl⟩ : ∃ m, k = m + 1 := ⟨k - 1, by omega⟩
    have hL := laws_markIntS_list_length l n
    simp only [laws_markIntS.l0]
    rw [if_pos (by omega), if_pos (by omega), wnext i (by omega), Int.toNat_natCast, w64 (by omega) (by omega), show n + (i : Int) + 1 = n + ((i + 1 : Nat) : Int) by omega]
    obtain ⟨h1, h2⟩ := set_step acc (laws_markIntS_list l n) i _ ha (by omega) (laws_markIntS_list_at l n i (by omega)) hp
    exact ih k (i + 1) _ h1 (by omega) (by omega) (by omega) h2
theorem laws_markIntS_eq (l : List Int) (n : Int) (hn : 0 ≤ n ∧ n ≤ 4611686018427387904) (hl : l.length ≤ 1048576) (k : Nat) (hk : 1048576 < k) : laws_markIntS.f k l n = some (n + (l.length : Int), laws_markIntS_list l n) := by
  have hL := laws_markIntS_list_length l n
  have h := laws_markIntS_go l n hn hl l.length k 0 l (by omega) (by omega) (by omega) (by omega) (by intro j hj; omega)
  unfold laws_markIntS.f
  simpa using h

theorem laws_heldIntS_go (l : List Int) (n : Int) (hn : 0 ≤ n ∧ n ≤ 4611686018427387904) (hl : l.length ≤ 1048576) (d : Nat) : ∀ (k i : Nat), i ≤ l.length → l.length - i = d → d < k →
    laws_heldIntS.l0 k (laws_markIntS_list l n) (n + (i : Int)) (i : Int) = some (n + (l.length : Int)) := by
  induction d with
  | zero =>
    intro k i hi hd hk
    obtain ⟨k, rfl⟩ : ∃ m, k = m + 1 := ⟨k - 1, by omega⟩
    have hL := laws_markIntS_list_length l n
    simp only [laws_heldIntS.l0]
    rw [if_neg (by omega), show i = l.length by omega]
  | succ d ih =>
    intro k i hi hd hk
    obtain ⟨k, rfl⟩ : ∃ m, k = m + 1 := ⟨k - 1, by omega⟩
    have hL := laws_markIntS_list_length l n
    have hv : (laws_markIntS_list l n)[i] = (fun m : Int => m) (n + (i : Int)) := by simp [laws_markIntS_list]
    simp only [laws_heldIntS.l0]
    rw [if_pos (by omega), if_pos (by omega), rd_at (laws_markIntS_list l n) i (by omega), hv, if_pos rfl, wnext i (by omega), w64 (by omega) (by omega), show n + (i : Int) + 1 = n + ((i + 1 : Nat) : Int) by omega]
    exact ih k (i + 1) (by omega) (by omega) (by omega)
theorem laws_heldIntS_eq (l : List Int) (n : Int) (hn : 0 ≤ n ∧ n ≤ 4611686018427387904) (hl : l.length ≤ 1048576) (k : Nat) (hk : 1048576 < k) : laws_heldIntS.f k (laws_markIntS_list l n) n = some (n + (l.length : Int)) := by
  have h := laws_heldIntS_go l n hn hl l.length k 0 (by omega) (by omega) (by omega)
  unfold laws_heldIntS.f
  simpa using h

theorem neg_len (n : Nat) : ¬ ((1 : Int) + (n : Int) < 0) := by omega
theorem bne_no (b : Bool) : ¬ ((b != b) = true) := by simp
theorem ff : ¬ (false = true) := by simp
theorem ntt : ¬ ((!true) = true) := by simp
theorem sb {α β : Type} {o : Option α} {v : α} {f : α → Option β} {r : Option β} (h : o = some v) (k : f v = r) : o.bind f = r := by rw [h]; exact k
theorem st {α : Type} {c : Prop} [Decidable c] {a b r : α} (h : c) (k : a = r) : (if c then a else b) = r := by rw [if_pos h]; exact k
theorem sf {α : Type} {c : Prop} [Decidable c] {a b r : α} (h : ¬ c) (k : b = r) : (if c then a else b) = r := by rw [if_neg h]; exact k

def okW (l : List Int) : Bool := decide ((l.length : Int) % 16 = 0 ∧ 32 ≤ l.length ∧ l.length ≤ 192)
theorem words_impl (l : List Int) : impl_WordsOk.f l = some (okW l) := by
  unfold impl_WordsOk.f okW
  by_cases h : ((l.length : Int) % 16) = 0
  · rw [if_pos h]
    by_cases h2 : (l.length : Int) ≥ 32
    · rw [if_pos h2]
      exact congrArg some (decide_eq_decide.2 (by omega))
    · rw [if_neg h2]
      exact congrArg some (decide_eq_false (by omega)).symm
  · rw [if_neg h]
    exact congrArg some (decide_eq_false (by omega)).symm
theorem words_spec (l : List Int) (hl : l.length ≤ 1048576) : spec_WordsOk.f l = some (okW l) := by
  unfold spec_WordsOk.f okW
  by_cases h : ((l.length : Int) % 16) = 0
  · rw [if_pos h, w64 (by omega) (by omega)]
    by_cases h2 : (l.length : Int) / 16 ≥ 2
    · rw [if_pos h2]
      exact congrArg some (decide_eq_decide.2 (by omega))
    · rw [if_neg h2]
      exact congrArg some (decide_eq_false (by omega)).symm
  · rw [if_neg h]
    exact congrArg some (decide_eq_false (by omega)).symm

theorem clone_eq (l : List Int) (hl : l.length ≤ 1048576) : slices_Clone_int_int.f l = some l := by
  unfold slices_Clone_int_int.f
  rw [if_pos (by omega)]

def fitB (l : List Int) (a n : Int) : Bool := okW l && decide (16 ≤ a ∧ a < (l.length : Int) ∧ a % 16 + n ≤ 16)
theorem impl_fit (l : List Int) (a n : Int) (hl : l.length ≤ 1048576) (hn : 0 ≤ n ∧ n ≤ 100) : impl_fits.f l a n = some (fitB l a n) := by
  unfold impl_fits.f fitB
  rw [words_impl l]
  simp only [Option.bind_some]
  cases okW l with
  | false => rfl
  | true =>
    rw [if_pos rfl, Bool.true_and]
    by_cases h1 : a ≥ 16
    · rw [if_pos h1]
      by_cases h2 : a < (l.length : Int)
      · rw [if_pos h2, tmod_nn (by omega), w64 (by omega) (by omega)]
        exact congrArg some (decide_eq_decide.2 (by omega))
      · rw [if_neg h2]
        exact congrArg some (decide_eq_false (by omega)).symm
    · rw [if_neg h1]
      exact congrArg some (decide_eq_false (by omega)).symm
theorem spec_fit (l : List Int) (a n : Int) (hl : l.length ≤ 1048576) (hn : 2 ≤ n ∧ n ≤ 16) : spec_l3Fits.f l a n = some (fitB l a n) := by
  unfold spec_l3Fits.f fitB
  rw [words_spec l hl]
  simp only [Option.bind_some]
  cases okW l with
  | false => rfl
  | true =>
    rw [if_pos rfl, Bool.true_and, if_pos (by omega), if_pos (by omega)]
    by_cases h1 : a ≥ 16
    · rw [if_pos h1]
      by_cases h2 : a < (l.length : Int)
      · rw [if_pos h2, w64 (x := a + n) (by omega) (by omega), w64 (x := a + n - 1) (by omega) (by omega)]
        unfold spec_RegionOf.f
        rw [if_neg (by omega), if_neg (by omega), tdiv_nn (by omega), tdiv_nn (by omega), w64 (by omega) (by omega), w64 (by omega) (by omega)]
        simp only [Option.bind_some]
        refine congrArg some ?_
        rw [Bool.eq_iff_iff]
        simp
        omega
      · rw [if_neg h2]
        exact congrArg some (decide_eq_false (by omega)).symm
    · rw [if_neg h1]
      exact congrArg some (decide_eq_false (by omega)).symm
theorem size_impl (r n : Int) (hr : 0 ≤ r ∧ r ≤ 4) (hn : 0 ≤ n ∧ n ≤ 4) : impl_ShapeSize.f r n = some (2 + r + n) := by
  unfold impl_ShapeSize.f impl_ShapeOk.f
  rw [if_pos hr.1, if_pos hr.2, if_pos hn.1]
  simp only [Option.bind_some]
  rw [if_pos (by simp [hn.2]), w64 (x := 2 + r) (by omega) (by omega), w64 (by omega) (by omega)]
theorem size_spec (r n : Int) (hr : 0 ≤ r ∧ r ≤ 4) (hn : 0 ≤ n ∧ n ≤ 4) : spec_ShapeSize.f r n = some (2 + r + n) := size_impl r n hr hn
theorem fit_room {l : List Int} {a n : Int} (h : fitB l a n = true) : okW l = true ∧ 16 ≤ a ∧ a + n ≤ (l.length : Int) ∧ l.length ≤ 192 := by
  unfold fitB at h
  rw [Bool.and_eq_true] at h
  obtain ⟨h1, h2⟩ := h
  have h2 := of_decide_eq_true h2
  have h3 := of_decide_eq_true h1
  exact ⟨h1, h2.1, by omega, by omega⟩

def shapeB (r n : Int) : Bool := decide (0 ≤ r ∧ r ≤ 4 ∧ 0 ≤ n ∧ n ≤ 4)
theorem shape_impl (r n : Int) : impl_ShapeOk.f r n = some (shapeB r n) := by
  unfold impl_ShapeOk.f shapeB
  by_cases h1 : r ≥ 0
  · rw [if_pos h1]
    by_cases h2 : r ≤ 4
    · rw [if_pos h2]
      by_cases h3 : n ≥ 0
      · rw [if_pos h3]
        exact congrArg some (decide_eq_decide.2 (by omega))
      · rw [if_neg h3, decide_eq_false (by omega)]
    · rw [if_neg h2, decide_eq_false (by omega)]
  · rw [if_neg h1, decide_eq_false (by omega)]
theorem shape_spec (r n : Int) : spec_ShapeOk.f r n = some (shapeB r n) := shape_impl r n
theorem word_impl (r n : Int) (h : 0 ≤ r ∧ r ≤ 4 ∧ 0 ≤ n ∧ n ≤ 4) : impl_ShapeWord.f r n = some (16 * r + n) := by
  unfold impl_ShapeWord.f
  rw [shape_impl, shapeB, decide_eq_true h]
  simp only [Option.bind_some]
  rw [if_pos trivial, w64 (x := 16 * r) (by omega) (by omega), w64 (by omega) (by omega)]
theorem word_spec (r n : Int) (h : 0 ≤ r ∧ r ≤ 4 ∧ 0 ≤ n ∧ n ≤ 4) : spec_ShapeWord.f r n = some (16 * r + n) := word_impl r n h
def fin (a r n : Int) (ys : List Int) : List Int × Bool := ((ys.set a.toNat a).set (a + 1).toNat (16 * r + n), true)
theorem make_go (a : Nat) (A r n : Int) (hA : A = (a : Int)) (sz len : Nat) (hs : 2 ≤ sz) (hl : a + sz ≤ len) (hlen : len ≤ 192) (h : 0 ≤ r ∧ r ≤ 4 ∧ 0 ≤ n ∧ n ≤ 4) (d : Nat) : ∀ (i k : Nat) (xs : List Int), xs.length = len → i + d = sz → d < k →
    spec_ThingMake.l0 k A (sz : Int) xs (i : Int) r n = some (fin A r n (clearL xs (a + i) d)) := by
  subst hA
  induction d with
  | zero =>
    intro i k xs hx hi hk
    obtain ⟨k, rfl⟩ : ∃ m, k = m + 1 := ⟨k - 1, by omega⟩
    simp only [spec_ThingMake.l0]
    rw [if_neg (by omega), if_pos (by omega), if_pos (by omega)]
    refine sb (word_spec r n h) ?_
    rw [w64 (by omega) (by omega), if_pos (by omega), if_pos (by omega), show clearL xs (a + i) 0 = xs from rfl, fin]
  | succ d ih =>
    intro i k xs hx hi hk
    obtain ⟨k, rfl⟩ : ∃ m, k = m + 1 := ⟨k - 1, by omega⟩
    simp only [spec_ThingMake.l0]
    rw [if_pos (by omega), w64 (x := (a : Int) + i) (by omega) (by omega), if_pos (by omega), if_pos (by omega), wnext i (by omega), show ((a : Int) + i).toNat = a + i by omega]
    rw [ih (i + 1) k (xs.set (a + i) 0) (by simpa using hx) (by omega) (by omega), show clearL xs (a + i) (d + 1) = clearL (xs.set (a + i) 0) (a + (i + 1)) d from rfl]
def makeOf (l : List Int) (a r n : Int) : List Int × Bool := if shapeB r n = true ∧ fitB l a (2 + r + n) = true then fin a r n (clearL l a.toNat (2 + r + n).toNat) else ([], false)
theorem make_spec (l : List Int) (a r n : Int) (hl : l.length ≤ 1048576) (K : Nat) (hK : 1000 < K) : spec_ThingMake.f K l a r n = some (makeOf l a r n) := by
  unfold spec_ThingMake.f makeOf
  cases hb : shapeB r n with
  | false =>
    have h0 : spec_ShapeSize.f r n = some 0 := by
      unfold spec_ShapeSize.f
      rw [shape_spec, hb]
      rfl
    have h1 : spec_l3Fits.f l a 0 = some false := by
      unfold spec_l3Fits.f
      rw [words_spec l hl]
      simp only [Option.bind_some]
      cases okW l <;> rfl
    rw [h0]
    simp only [Option.bind_some]
    rw [h1]
    simp
  | true =>
    have h := of_decide_eq_true hb
    rw [size_spec r n (by omega) (by omega)]
    simp only [Option.bind_some]
    rw [spec_fit l a _ hl (by omega)]
    simp only [Option.bind_some]
    cases hf : fitB l a (2 + r + n) with
    | false => simp
    | true =>
      obtain ⟨_, a0, a1, a2⟩ := fit_room hf
      rw [if_pos rfl, if_pos (by simp; omega), if_pos ⟨by trivial, by trivial⟩, List.nil_append]
      obtain ⟨z, hz⟩ := Int.eq_ofNat_of_zero_le (show 0 ≤ 2 + r + n by omega)
      have := make_go a.toNat a r n (by omega) z l.length (by omega) (by omega) a2 h z 0 K l rfl (by omega) (by omega)
      rw [hz]
      simpa using this
theorem make_impl (l : List Int) (a r n : Int) (hl : l.length ≤ 1048576) (K : Nat) (hK : 1000 < K) : impl_ThingMake.f K l a r n = some (makeOf l a r n) := by
  have bad : impl_ThingMake.j0 K l a true r n = some ([], false) := by
    obtain ⟨K, rfl⟩ : ∃ m, K = m + 1 := ⟨K - 1, by omega⟩
    simp [impl_ThingMake.j0]
  unfold impl_ThingMake.f makeOf
  rw [shape_impl, bad]
  simp only [Option.bind_some]
  cases hb : shapeB r n with
  | false => simp
  | true =>
    have h := of_decide_eq_true hb
    rw [if_pos rfl, size_impl r n (by omega) (by omega)]
    simp only [Option.bind_some]
    rw [impl_fit l a _ hl (by omega)]
    simp only [Option.bind_some]
    cases hf : fitB l a (2 + r + n) with
    | false =>
      rw [Bool.not_false, bad]
      simp
    | true =>
      obtain ⟨_, a0, a1, a2⟩ := fit_room hf
      obtain ⟨K, rfl⟩ : ∃ m, K = m + 1 := ⟨K - 1, by omega⟩
      simp only [Bool.not_true, impl_ThingMake.j0, Bool.false_eq_true, if_false]
      rw [clone_eq l hl, size_impl r n (by omega) (by omega)]
      simp only [Option.bind_some]
      rw [w64 (x := a + (2 + r + n)) (by omega) (by omega), if_pos (by omega), if_pos (by omega), if_pos (by omega), word_impl r n h]
      simp only [Option.bind_some]
      rw [w64 (x := a + 1) (by omega) (by omega), if_pos (by omega), if_pos (by omega), if_pos (by omega), if_pos ⟨by trivial, by trivial⟩, show (a + (2 + r + n)).toNat - a.toNat = (2 + r + n).toNat by omega]
      rfl
theorem make_length (l : List Int) (a r n : Int) : (makeOf l a r n).1.length ≤ l.length := by
  unfold makeOf fin
  split
  · simp [clearL_length]
  · simp
theorem shape_id (r n : Int) : laws_toShape.f r n = some (r, n) := rfl
theorem FnExactThingMake (l : List Int) (a r n : Int) (hg : l.length ≤ maxLen ∧ ∀ x ∈ l, (Lit.int .i64 x).wf = true) (_ : (Lit.int .i64 a).wf = true) (_ : (Lit.int .i64 r).wf = true) (_ : (Lit.int .i64 n).wf = true) : ∃ k, laws_FnExactThingMake.f k l a r n = some true := by
  obtain ⟨K, hK⟩ : ∃ K, 1048576 < K := ⟨1048577, by omega⟩
  refine ⟨K + 3, ?_⟩
  by_cases h : (l.length : Int) > 1048576
  · unfold laws_FnExactThingMake.f
    rw [if_pos h]
  have hl : l.length ≤ 1048576 := by omega
  have hn : ¬ (l.length : Int) > 1048576 := h
  have hr : (makeOf l a r n).1.length ≤ 1048576 := Nat.le_trans (make_length _ _ _ _) hl
  have hS : ∀ K, 1000 < K → spec_ThingMake.f K l a r n = some (makeOf l a r n) := fun K hK => make_spec l a r n hl K hK
  have hI : ∀ K, 1000 < K → impl_ThingMake.f K l a r n = some (makeOf l a r n) := fun K hK => make_impl l a r n hl K hK
  unfold laws_FnExactThingMake.f
  repeat (first
    | (with_reducible refine st rfl ?_)
    | (with_reducible refine sf (neg_len _) ?_)
    | (with_reducible refine sf (bne_no _) ?_)
    | (with_reducible refine sf ff ?_)
    | (with_reducible refine sf ntt ?_)
    | (with_reducible refine sf hn ?_)
    | ((with_reducible refine sb (shape_id r n) ?_); try dsimp only)
    | ((with_reducible refine sb (hS _ ?_) ?_); omega; try dsimp only)
    | ((with_reducible refine sb (hI _ ?_) ?_); omega; try dsimp only)
    | ((with_reducible refine sb (laws_toIntS_eq _ hl _ ?_) ?_); omega; try dsimp only)
    | ((with_reducible refine sb (laws_eqIntS_self _ hl _ ?_) ?_); omega; try dsimp only)
    | ((with_reducible refine sb (laws_eqIntS_self _ hr _ ?_) ?_); omega; try dsimp only)
    | ((with_reducible refine sb (laws_markIntS_eq _ 1 ?_ hl _ ?_) ?_); omega; omega; try dsimp only)
    | ((with_reducible refine sb (laws_markIntS_eq _ 1 ?_ hr _ ?_) ?_); omega; omega; try dsimp only)
    | ((with_reducible refine sb (laws_heldIntS_eq _ 1 ?_ hr _ ?_) ?_); omega; omega; try dsimp only)
    | rw [laws_FnExactThingMake.j0]
    | rw [laws_FnExactThingMake.j1]
    | rw [laws_FnExactThingMake.j2]
    | (with_reducible rfl))

end Go.Proofs.Ytaihpphekkiemaa.Pure
