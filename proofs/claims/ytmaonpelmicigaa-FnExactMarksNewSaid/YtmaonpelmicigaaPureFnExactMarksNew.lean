/- MarksNew of the program answers as the reference does, at every int, with new memory each time. No condition. -/
import Derived.Test.YtmaonpelmicigaaPFnExactMarksNewx1
namespace Go.Proofs.Ytmaonpelmicigaa.Pure
open Go.RowKit Go.Proofs.Ytmaonpelmicigaa.PFnExactMarksNew Go.Proofs.YtmaonpelmicigaaW.PrintWords Go.Proofs.YtmaonpelmicigaaW.PrintLast

theorem w64 {x : Int} (h0 : -9223372036854775808 ≤ x) (h1 : x ≤ 9223372036854775807) : wrap64 x = x := by
  unfold wrap64
  omega
theorem wnext (i : Nat) (h : i < 9223372036854775807) : wrap64 ((i : Int) + 1) = ((i + 1 : Nat) : Int) := by
  unfold wrap64
  omega
theorem rdOf_at {α : Type} (d : α) (l : List α) (i : Nat) (h : i < l.length) : rdOf d l (i : Int) = l[i] := by
  simp [rdOf, List.getD, h]
theorem rd_at (l : List Int) (i : Nat) (h : i < l.length) : rd l (i : Int) = l[i] := by
  simp [rd, List.getD, h]
theorem set_step {α : Type} (l m : List α) (i : Nat) (v : α) (hl : l.length = m.length) (hi : i < m.length) (hv : m[i]? = some v)
    (hp : ∀ j, j < i → l[j]? = m[j]?) : (l.set i v).length = m.length ∧ ∀ j, j < i + 1 → (l.set i v)[j]? = m[j]? := by
  refine ⟨by simp [hl], fun j hj => ?_⟩
  rw [List.getElem?_set]
  by_cases e : i = j
  · subst e
    rw [if_pos rfl, if_pos (by omega), hv]
  · rw [if_neg e]
    exact hp j (by omega)
theorem all_eq {α : Type} (l m : List α) (hl : l.length = m.length) (hp : ∀ j, j < m.length → l[j]? = m[j]?) : l = m := by
  apply List.ext_getElem?
  intro j
  by_cases hj : j < m.length
  · exact hp j hj
  · rw [List.getElem?_eq_none (by omega), List.getElem?_eq_none (by omega)]

theorem b64 {n : Int} (h : (Lit.int .i64 n).wf = true) : -9223372036854775808 ≤ n ∧ n ≤ 9223372036854775807 := by
  simp [Lit.wf, IntKind.min, IntKind.max, IntKind.signed, IntKind.bits] at h
  omega
theorem b8 {n : Int} (h : (Lit.int .u8 n).wf = true) : 0 ≤ n ∧ n ≤ 255 := by
  simp [Lit.wf, IntKind.min, IntKind.max, IntKind.signed, IntKind.bits] at h
  omega

theorem laws_eqBoolS_go (l : List Bool) (hl : l.length ≤ 1048576) (d : Nat) : ∀ (k i : Nat), i ≤ l.length → l.length - i = d → d < k → laws_eqBoolS.l0 k l l (i : Int) = some true := by
  induction d with
  | zero =>
    intro k i hi hd hk
    obtain ⟨k, rfl⟩ : ∃ m, k = m + 1 := ⟨k - 1, by omega⟩
    simp only [laws_eqBoolS.l0]
    rw [if_neg (by omega)]
  | succ d ih =>
    intro k i hi hd hk
    obtain ⟨k, rfl⟩ : ∃ m, k = m + 1 := ⟨k - 1, by omega⟩
    simp only [laws_eqBoolS.l0]
    rw [if_pos (by omega), if_pos (by omega), if_pos (by omega), wnext i (by omega), if_neg (by simp)]
    exact ih k (i + 1) (by omega) (by omega) (by omega)
theorem laws_eqBoolS_self (l : List Bool) (hl : l.length ≤ 1048576) (k : Nat) (hk : 1048576 < k) : laws_eqBoolS.f k l l = some true := by
  unfold laws_eqBoolS.f
  rw [if_pos rfl]
  exact laws_eqBoolS_go l hl l.length k 0 (by omega) (by omega) (by omega)

def laws_markBoolS_list (l : List Bool) (n : Int) : List Bool := (List.range l.length).map fun j : Nat => (fun m : Int => Int.tmod m 3 == 0) (n + (j : Int))
theorem laws_markBoolS_list_length (l : List Bool) (n : Int) : (laws_markBoolS_list l n).length = l.length := by simp [laws_markBoolS_list]
theorem laws_markBoolS_list_at (l : List Bool) (n : Int) (i : Nat) (h : i < l.length) : (laws_markBoolS_list l n)[i]? = some ((fun m : Int => Int.tmod m 3 == 0) (n + (i : Int))) := by simp [laws_markBoolS_list, h]
theorem laws_markBoolS_go (l : List Bool) (n : Int) (hn : 0 ≤ n ∧ n ≤ 4611686018427387904) (hl : l.length ≤ 1048576) (d : Nat) : ∀ (k i : Nat) (acc : List Bool), acc.length = (laws_markBoolS_list l n).length → i ≤ l.length → l.length - i = d → d < k →
    (∀ j, j < i → acc[j]? = (laws_markBoolS_list l n)[j]?) → laws_markBoolS.l0 k acc (n + (i : Int)) (i : Int) = some (n + (l.length : Int), laws_markBoolS_list l n) := by
  induction d with
  | zero =>
    intro k i acc ha hi hd hk hp
    obtain ⟨k, rfl⟩ : ∃ m, k = m + 1 := ⟨k - 1, by omega⟩
    have hL := laws_markBoolS_list_length l n
    simp only [laws_markBoolS.l0]
    rw [if_neg (by omega), all_eq acc (laws_markBoolS_list l n) ha (fun j hj => hp j (by omega)), show i = l.length by omega]
  | succ d ih =>
    intro k i acc ha hi hd hk hp
    obtain ⟨k, rfl⟩ : ∃ m, k = m + 1 := ⟨k - 1, by omega⟩
    have hL := laws_markBoolS_list_length l n
    simp only [laws_markBoolS.l0]
    rw [if_pos (by omega), if_pos (by omega), wnext i (by omega), Int.toNat_natCast, w64 (by omega) (by omega), show n + (i : Int) + 1 = n + ((i + 1 : Nat) : Int) by omega]
    obtain ⟨h1, h2⟩ := set_step acc (laws_markBoolS_list l n) i _ ha (by omega) (laws_markBoolS_list_at l n i (by omega)) hp
    exact ih k (i + 1) _ h1 (by omega) (by omega) (by omega) h2
theorem laws_markBoolS_eq (l : List Bool) (n : Int) (hn : 0 ≤ n ∧ n ≤ 4611686018427387904) (hl : l.length ≤ 1048576) (k : Nat) (hk : 1048576 < k) : laws_markBoolS.f k l n = some (n + (l.length : Int), laws_markBoolS_list l n) := by
  have hL := laws_markBoolS_list_length l n
  have h := laws_markBoolS_go l n hn hl l.length k 0 l (by omega) (by omega) (by omega) (by omega) (by intro j hj; omega)
  unfold laws_markBoolS.f
  simpa using h

theorem laws_heldBoolS_go (l : List Bool) (n : Int) (hn : 0 ≤ n ∧ n ≤ 4611686018427387904) (hl : l.length ≤ 1048576) (d : Nat) : ∀ (k i : Nat), i ≤ l.length → l.length - i = d → d < k →
    laws_heldBoolS.l0 k (laws_markBoolS_list l n) (n + (i : Int)) (i : Int) = some (n + (l.length : Int)) := by
  induction d with
  | zero =>
    intro k i hi hd hk
    obtain ⟨k, rfl⟩ : ∃ m, k = m + 1 := ⟨k - 1, by omega⟩
    have hL := laws_markBoolS_list_length l n
    simp only [laws_heldBoolS.l0]
    rw [if_neg (by omega), show i = l.length by omega]
  | succ d ih =>
    intro k i hi hd hk
    obtain ⟨k, rfl⟩ : ∃ m, k = m + 1 := ⟨k - 1, by omega⟩
    have hL := laws_markBoolS_list_length l n
    have hv : (laws_markBoolS_list l n)[i] = (fun m : Int => Int.tmod m 3 == 0) (n + (i : Int)) := by simp [laws_markBoolS_list]
    simp only [laws_heldBoolS.l0]
    rw [if_pos (by omega), if_pos (by omega), rdOf_at false (laws_markBoolS_list l n) i (by omega), hv, if_neg (by simp), wnext i (by omega), w64 (by omega) (by omega), show n + (i : Int) + 1 = n + ((i + 1 : Nat) : Int) by omega]
    exact ih k (i + 1) (by omega) (by omega) (by omega)
theorem laws_heldBoolS_eq (l : List Bool) (n : Int) (hn : 0 ≤ n ∧ n ≤ 4611686018427387904) (hl : l.length ≤ 1048576) (k : Nat) (hk : 1048576 < k) : laws_heldBoolS.f k (laws_markBoolS_list l n) n = some (n + (l.length : Int)) := by
  have h := laws_heldBoolS_go l n hn hl l.length k 0 (by omega) (by omega) (by omega)
  unfold laws_heldBoolS.f
  simpa using h

theorem FnExactMarksNew : laws_FnExactMarksNew.Pure := by
  intro a0 h0
  obtain ⟨r, hr, hl⟩ : ∃ r : List Bool × Bool, spec_MarksNew.f a0 = some r ∧ r.1.length ≤ 1048576 := by
    unfold spec_MarksNew.f
    by_cases c1 : a0 < 2
    · rw [if_pos c1]
      exact ⟨_, rfl, by simp⟩
    by_cases c2 : a0 > 12
    · rw [if_neg c1, if_pos c2]
      exact ⟨_, rfl, by simp⟩
    rw [if_neg c1, if_neg c2, w64 (by omega) (by omega), if_pos (by omega), if_pos (by omega)]
    exact ⟨_, rfl, by simp; omega⟩
  have hi : impl_MarksNew.f a0 = some r := hr
  obtain ⟨K, hK⟩ : ∃ K, 1048576 < K := ⟨1048577, by omega⟩
  refine ⟨K + 2, ?_⟩
  unfold laws_FnExactMarksNew.f
  rw [hr, hi]
  simp only [Option.bind_some]
  rw [laws_eqBoolS_self _ hl _ (by omega)]
  simp only [Option.bind_some, if_true, laws_FnExactMarksNew.j0]
  rw [if_neg (by simp), laws_markBoolS_eq _ 1 (by omega) hl _ (by omega)]
  simp only [Option.bind_some]
  rw [laws_heldBoolS_eq _ 1 (by omega) hl _ (by omega)]
  simp only [Option.bind_some]
  rw [if_neg (by omega), if_pos trivial, hi]
  simp only [Option.bind_some]
  rw [laws_eqBoolS_self _ hl _ (by omega)]
  simp only [Option.bind_some, if_true, laws_FnExactMarksNew.j1]
  rw [if_neg (by simp), laws_heldBoolS_eq _ 1 (by omega) hl _ (by omega)]
  simp only [Option.bind_some]
  rw [if_neg (by omega), if_pos trivial]

end Go.Proofs.Ytmaonpelmicigaa.Pure
