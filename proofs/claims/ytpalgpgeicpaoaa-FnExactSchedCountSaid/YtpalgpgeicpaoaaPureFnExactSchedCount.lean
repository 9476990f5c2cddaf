/- SchedCount of the program answers as the reference does, at every int and every slice of ints of at most 2^20 elements, leaves its argument alone, and answers with new memory each time. No condition. -/
import Derived.Test.YtpalgpgeicpaoaaPFnExactSchedCountx2
namespace Go.Proofs.Ytpalgpgeicpaoaa.Pure
open Go.RowKit Go.Proofs.Ytpalgpgeicpaoaa.PFnExactSchedCount Go.Proofs.YtpalgpgeicpaoaaW.PrintWords Go.Proofs.YtpalgpgeicpaoaaW.PrintLast
set_option linter.unusedVariables false
set_option linter.unusedSimpArgs false

theorem w64 {x : Int} (h0 : -9223372036854775808 ≤ x) (h1 : x ≤ 9223372036854775807) : wrap64 x = x := by
  unfold wrap64
  omega
theorem wnext (i : Nat) (h : i < 9223372036854775807) : wrap64 ((i : Int) + 1) = ((i + 1 : Nat) : Int) := by
  unfold wrap64
  omega
theorem rdOf_at {α : Type} (d : α) (l : List α) (i : Nat) (h : i < l.length) : rdOf d l (i : Int) = l[i] := by
  simp [rdOf, List.getD, h]
theorem rd_at (l : List Int) (i : Nat) (h : i < l.length) : rd l (i : Int) = l[i] := by
  simp [rd, List.getD, h]
theorem set_step {α : Type} (l m : List α) (i : Nat) (v : α) (hl : l.length = m.length) (hi : i < m.length) (hv : m[i]? = some v)
    (hp : ∀ j, j < i → l[j]? = m[j]?) : (l.set i v).length = m.length ∧ ∀ j, j < i + 1 → (l.set i v)[j]? = m[j]? := by
  refine ⟨by simp [hl], fun j hj => ?_⟩
  rw [List.getElem?_set]
  by_cases e : i = j
  · subst e
    rw [if_pos rfl, if_pos (by omega), hv]
  · rw [if_neg e]
    exact hp j (by omega)
theorem all_eq {α : Type} (l m : List α) (hl : l.length = m.length) (hp : ∀ j, j < m.length → l[j]? = m[j]?) : l = m := by
  apply List.ext_getElem?
  intro j
  by_cases hj : j < m.length
  · exact hp j hj
  · rw [List.getElem?_eq_none (by omega), List.getElem?_eq_none (by omega)]

theorem b64 {n : Int} (h : (Lit.int .i64 n).wf = true) : -9223372036854775808 ≤ n ∧ n ≤ 9223372036854775807 := by
  simp [Lit.wf, IntKind.min, IntKind.max, IntKind.signed, IntKind.bits] at h
  omega
theorem b8 {n : Int} (h : (Lit.int .u8 n).wf = true) : 0 ≤ n ∧ n ≤ 255 := by
  simp [Lit.wf, IntKind.min, IntKind.max, IntKind.signed, IntKind.bits] at h
  omega

theorem laws_toIntS_go (l : List Int) (hl : l.length ≤ 1048576) (d : Nat) : ∀ (k i : Nat) (acc : List Int), acc.length = l.length → i ≤ l.length → l.length - i = d → d < k →
    (∀ j, j < i → acc[j]? = l[j]?) → laws_toIntS.l0 k l acc (i : Int) = some l := by
  induction d with
  | zero =>
    intro k i acc ha hi hd hk hp
    obtain ⟨k, rfl⟩ : ∃ m, k = m + 1 := ⟨k - 1, by omega⟩
    simp only [laws_toIntS.l0]
    rw [if_neg (by omega)]
    exact congrArg some (all_eq acc l ha (fun j hj => hp j (by omega)))
  | succ d ih =>
    intro k i acc ha hi hd hk hp
    obtain ⟨k, rfl⟩ : ∃ m, k = m + 1 := ⟨k - 1, by omega⟩
    simp only [laws_toIntS.l0]
    rw [if_pos (by omega), if_pos (by omega), if_pos (by omega), wnext i (by omega), rd_at l i (by omega), Int.toNat_natCast]
    obtain ⟨h1, h2⟩ := set_step acc l i l[i] ha (by omega) (by simp) hp
    exact ih k (i + 1) _ h1 (by omega) (by omega) (by omega) h2
theorem laws_toIntS_eq (l : List Int) (hl : l.length ≤ 1048576) (k : Nat) (hk : 1048576 < k) : laws_toIntS.f k l = some l := by
  unfold laws_toIntS.f
  rw [if_pos (by omega), if_pos (by omega)]
  exact laws_toIntS_go l hl l.length k 0 _ (by simp) (by omega) (by omega) (by omega) (by intro j hj; omega)

theorem laws_eqIntS_go (l : List Int) (hl : l.length ≤ 1048576) (d : Nat) : ∀ (k i : Nat), i ≤ l.length → l.length - i = d → d < k → laws_eqIntS.l0 k l l (i : Int) = some true := by
  induction d with
  | zero =>
    intro k i hi hd hk
    obtain ⟨k, rfl⟩ : ∃ m, k = m + 1 := ⟨k - 1, by omega⟩
    simp only [laws_eqIntS.l0]
    rw [if_neg (by omega)]
  | succ d ih =>
    intro k i hi hd hk
    obtain ⟨k, rfl⟩ : ∃ m, k = m + 1 := ⟨k - 1, by omega⟩
    simp only [laws_eqIntS.l0]
    rw [if_pos (by omega), if_pos (by omega), if_pos (by omega), wnext i (by omega), if_pos trivial]
    exact ih k (i + 1) (by omega) (by omega) (by omega)
theorem laws_eqIntS_self (l : List Int) (hl : l.length ≤ 1048576) (k : Nat) (hk : 1048576 < k) : laws_eqIntS.f k l l = some true := by
  unfold laws_eqIntS.f
  rw [if_pos rfl]
  exact laws_eqIntS_go l hl l.length k 0 (by omega) (by omega) (by omega)

def laws_markIntS_list (l : List Int) (n : Int) : List Int := (List.range l.length).map fun j : Nat => (fun m : Int => m) (n + (j : Int))
theorem laws_markIntS_list_length (l : List Int) (n : Int) : (laws_markIntS_list l n).length = l.length := by simp [laws_markIntS_list]
theorem laws_markIntS_list_at (l : List Int) (n : Int) (i : Nat) (h : i < l.length) : (laws_markIntS_list l n)[i]? = some ((fun m : Int => m) (n + (i : Int))) := by simp [laws_markIntS_list, h]
theorem laws_markIntS_go (l : List Int) (n : Int) (hn : 0 ≤ n ∧ n ≤ 4611686018427387904) (hl : l.length ≤ 1048576) (d : Nat) : ∀ (k i : Nat) (acc : List Int), acc.length = (laws_markIntS_list l n).length → i ≤ l.length → l.length - i = d → d < k →
    (∀ j, j < i → acc[j]? = (laws_markIntS_list l n)[j]?) → laws_markIntS.l0 k acc (n + (i : Int)) (i : Int) = some (n + (l.length : Int), laws_markIntS_list l n) := by
  induction d with
  | zero =>
    intro k i acc ha hi hd hk hp
    obtain ⟨k, rfl⟩ : ∃ m, k = m + 1 := ⟨k - 1, by omega⟩
    have hL := laws_markIntS_list_length l n
    simp only [laws_markIntS.l0]
    rw [if_neg (by omega), all_eq acc (laws_markIntS_list l n) ha (fun j hj => hp j (by omega)), show i = l.length by omega]
  | succ d ih =>
    intro k i acc ha hi hd hk hp
    obtain ⟨k, rfl⟩ : ∃ m, k = m + 1 := ⟨k - 1, by omega⟩
    have hL := laws_markIntS_list_length l n
    simp only [laws_markIntS.l0]
    rw [if_pos (by omega), if_pos (by omega), wnext i (by omega), Int.toNat_natCast, w64 (by omega) (by omega), show n + (i : Int) + 1 = n + ((i + 1 : Nat) : Int) by omega]
    obtain ⟨h1, h2⟩ := set_step acc (laws_markIntS_list l n) i _ ha (by omega) (laws_markIntS_list_at l n i (by omega)) hp
    exact ih k (i + 1) _ h1 (by omega) (by omega) (by omega) h2
theorem laws_markIntS_eq (l : List Int) (n : Int) (hn : 0 ≤ n ∧ n ≤ 4611686018427387904) (hl : l.length ≤ 1048576) (k : Nat) (hk : 1048576 < k) : laws_markIntS.f k l n = some (n + (l.length : Int), laws_markIntS_list l n) := by
  have hL := laws_markIntS_list_length l n
  have h := laws_markIntS_go l n hn hl l.length k 0 l (by omega) (by omega) (by omega) (by omega) (by intro j hj; omega)
  unfold laws_markIntS.f
  simpa using h

theorem laws_heldIntS_go (l : List Int) (n : Int) (hn : 0 ≤ n ∧ n ≤ 4611686018427387904) (hl : l.length ≤ 1048576) (d : Nat) : ∀ (k i : Nat), i ≤ l.length → l.length - i = d → d < k →
    laws_heldIntS.l0 k (laws_markIntS_list l n) (n + (i : Int)) (i : Int) = some (n + (l.length : Int)) := by
  induction d with
  | zero =>
    intro k i hi hd hk
    obtain ⟨k, rfl⟩ : ∃ m, k = m + 1 := ⟨k - 1, by omega⟩
    have hL := laws_markIntS_list_length l n
    simp only [laws_heldIntS.l0]
    rw [if_neg (by omega), show i = l.length by omega]
  | succ d ih =>
    intro k i hi hd hk
    obtain ⟨k, rfl⟩ : ∃ m, k = m + 1 := ⟨k - 1, by omega⟩
    have hL := laws_markIntS_list_length l n
    have hv : (laws_markIntS_list l n)[i] = (fun m : Int => m) (n + (i : Int)) := by simp [laws_markIntS_list]
    simp only [laws_heldIntS.l0]
    rw [if_pos (by omega), if_pos (by omega), rd_at (laws_markIntS_list l n) i (by omega), hv, if_pos rfl, wnext i (by omega), w64 (by omega) (by omega), show n + (i : Int) + 1 = n + ((i + 1 : Nat) : Int) by omega]
    exact ih k (i + 1) (by omega) (by omega) (by omega)
theorem laws_heldIntS_eq (l : List Int) (n : Int) (hn : 0 ≤ n ∧ n ≤ 4611686018427387904) (hl : l.length ≤ 1048576) (k : Nat) (hk : 1048576 < k) : laws_heldIntS.f k (laws_markIntS_list l n) n = some (n + (l.length : Int)) := by
  have h := laws_heldIntS_go l n hn hl l.length k 0 (by omega) (by omega) (by omega)
  unfold laws_heldIntS.f
  simpa using h

theorem neg_len (n : Nat) : ¬ ((1 : Int) + (n : Int) < 0) := by omega
theorem bne_no (b : Bool) : ¬ ((b != b) = true) := by simp
theorem ff : ¬ (false = true) := by simp
theorem ntt : ¬ ((!true) = true) := by simp
theorem sb {α β : Type} {o : Option α} {v : α} {f : α → Option β} {r : Option β} (h : o = some v) (k : f v = r) : o.bind f = r := by rw [h]; exact k
theorem st {α : Type} {c : Prop} [Decidable c] {a b r : α} (h : c) (k : a = r) : (if c then a else b) = r := by rw [if_pos h]; exact k
theorem sf {α : Type} {c : Prop} [Decidable c] {a b r : α} (h : ¬ c) (k : b = r) : (if c then a else b) = r := by rw [if_neg h]; exact k

theorem count_same (l : List Int) (k : Nat) : ∀ (a : Int) (acc : List Int) (i : Int), impl_SchedCount.l0 k a acc l (l.length : Int) i = spec_SchedCount.l0 k a l acc i := by
  induction k with
  | zero => intro a acc i; rfl
  | succ k ih =>
    intro a acc i
    simp only [impl_SchedCount.l0, spec_SchedCount.l0, ih]
    by_cases h : i < (l.length : Int)
    · rw [if_pos h, if_pos h, if_pos h]
    · rw [if_neg h, if_neg h]
def slot (a p : Int) : Int := if p < 0 then a + 2 else if p > a + 1 then a + 2 else p
def hit (a : Int) (acc : List Int) (p : Int) : List Int := acc.set (slot a p).toNat (wrap64 (rd acc (slot a p) + 1))
theorem count_fold (a : Int) (ha : 1 ≤ a ∧ a ≤ 3) (l : List Int) (hl : l.length ≤ 1048576) (d : Nat) : ∀ (k i : Nat) (acc : List Int), (acc.length : Int) = a + 3 → i ≤ l.length → l.length - i = d → d < k →
    spec_SchedCount.l0 k a l acc (i : Int) = some ((l.drop i).foldl (hit a) acc) := by
  induction d with
  | zero =>
    intro k i acc hacc hi hd hk
    obtain ⟨k, rfl⟩ : ∃ m, k = m + 1 := ⟨k - 1, by omega⟩
    simp only [spec_SchedCount.l0]
    rw [if_neg (by omega), List.drop_of_length_le (by omega)]
    rfl
  | succ d ih =>
    intro k i acc hacc hi hd hk
    obtain ⟨k, rfl⟩ : ∃ m, k = m + 1 := ⟨k - 1, by omega⟩
    have hn := ih k (i + 1) (hit a acc l[i]) (by simpa [hit] using hacc) (by omega) (by omega) (by omega)
    simp only [spec_SchedCount.l0]
    rw [if_pos (by omega), if_pos (by omega), rd_at l i (by omega), wnext i (by omega), w64 (x := a + 2) (by omega) (by omega), w64 (x := a + 1) (by omega) (by omega), List.drop_eq_getElem_cons (by omega), List.foldl_cons, ← hn]
    unfold hit slot
    by_cases h0 : l[i] < 0
    · rw [if_pos h0, if_pos (by omega), if_pos (by omega), if_pos h0]
    by_cases h1 : l[i] > a + 1
    · rw [if_neg h0, if_pos h1, if_pos (by omega), if_pos (by omega), if_neg h0, if_pos h1]
    · rw [if_neg h0, if_neg h1, if_pos (by omega), if_pos (by omega), if_neg h0, if_neg h1]
theorem hit_length (a : Int) (l : List Int) : ∀ acc : List Int, (l.foldl (hit a) acc).length = acc.length := by
  induction l with
  | nil => intro acc; rfl
  | cons x l ih =>
    intro acc
    rw [List.foldl_cons, ih]
    simp [hit]
def countOf (a : Int) (l : List Int) : List Int := if 1 ≤ a ∧ a ≤ 3 then l.foldl (hit a) (List.replicate (a + 3).toNat 0) else []
theorem count_both (a : Int) (l : List Int) (hl : l.length ≤ 1048576) : ∃ r, r.length ≤ 6 ∧ ∀ K, 1048576 < K → spec_SchedCount.f K a l = some r ∧ impl_SchedCount.f K a l = some r := by
  by_cases h1 : 1 ≤ a ∧ a ≤ 3
  · have e1 : spec_l18Ok.f a = some true := by
      unfold spec_l18Ok.f
      rw [if_pos h1.1, decide_eq_true h1.2]
    have e2 : impl_threadsOk.f a = some true := by
      unfold impl_threadsOk.f
      rw [if_pos h1.1, decide_eq_true h1.2]
    refine ⟨countOf a l, ?_, fun K hK => ?_⟩
    · unfold countOf
      rw [if_pos h1, hit_length]
      simp
      omega
    · have hf := count_fold a h1 l hl l.length K 0 (List.replicate (a + 3).toNat 0) (by simp; omega) (by omega) (by omega) (by omega)
      have hc : countOf a l = l.foldl (hit a) (List.replicate (a + 3).toNat 0) := if_pos h1
      rw [hc]
      have hs : spec_SchedCount.f K a l = some (l.foldl (hit a) (List.replicate (a + 3).toNat 0)) := by
        unfold spec_SchedCount.f
        rw [e1]
        simp only [Option.bind_some, if_true]
        rw [w64 (by omega) (by omega), if_pos (by omega), if_pos (by omega)]
        exact hf
      have hi : impl_SchedCount.f K a l = some (l.foldl (hit a) (List.replicate (a + 3).toNat 0)) := by
        unfold impl_SchedCount.f
        rw [e2]
        simp only [Option.bind_some, if_true]
        rw [w64 (by omega) (by omega), if_pos (by omega), if_pos (by omega), count_same l]
        exact hf
      exact ⟨hs, hi⟩
  · have e1 : spec_l18Ok.f a = some false := by
      unfold spec_l18Ok.f
      by_cases g : a ≥ 1
      · rw [if_pos g, decide_eq_false (by omega)]
      · rw [if_neg g]
    have e2 : impl_threadsOk.f a = some false := by
      unfold impl_threadsOk.f
      by_cases g : a ≥ 1
      · rw [if_pos g, decide_eq_false (by omega)]
      · rw [if_neg g]
    refine ⟨[], by simp, fun K hK => ?_⟩
    unfold spec_SchedCount.f impl_SchedCount.f
    rw [e1, e2]
    exact ⟨rfl, rfl⟩

theorem FnExactSchedCount (a : Int) (l : List Int) (_ : (Lit.int .i64 a).wf = true) (_ : l.length ≤ maxLen ∧ ∀ x ∈ l, (Lit.int .i64 x).wf = true) : ∃ k, laws_FnExactSchedCount.f k a l = some true := by
  obtain ⟨K, hK⟩ : ∃ K, 1048580 < K := ⟨1048581, by omega⟩
  refine ⟨K + 1, ?_⟩
  by_cases h : (l.length : Int) > 1048576
  · unfold laws_FnExactSchedCount.f
    rw [if_pos h]
  have hl : l.length ≤ 1048576 := by omega
  have hn : ¬ (l.length : Int) > 1048576 := h
  obtain ⟨r, hr, hb⟩ := count_both a l hl
  have hr : r.length ≤ 1048576 := by omega
  have hS : ∀ K, 1048576 < K → spec_SchedCount.f K a l = some r := fun K hK => (hb K hK).1
  have hI : ∀ K, 1048576 < K → impl_SchedCount.f K a l = some r := fun K hK => (hb K hK).2
  unfold laws_FnExactSchedCount.f
  repeat (first
    | (with_reducible refine st rfl ?_)
    | (with_reducible refine sf (neg_len _) ?_)
    | (with_reducible refine sf (bne_no _) ?_)
    | (with_reducible refine sf ff ?_)
    | (with_reducible refine sf ntt ?_)
    | (with_reducible refine sf hn ?_)
    | ((with_reducible refine sb (hS _ ?_) ?_); omega; try dsimp only)
    | ((with_reducible refine sb (hI _ ?_) ?_); omega; try dsimp only)
    | ((with_reducible refine sb (laws_toIntS_eq _ hl _ ?_) ?_); omega; try dsimp only)
    | ((with_reducible refine sb (laws_eqIntS_self _ hl _ ?_) ?_); omega; try dsimp only)
    | ((with_reducible refine sb (laws_eqIntS_self _ hr _ ?_) ?_); omega; try dsimp only)
    | ((with_reducible refine sb (laws_markIntS_eq _ 1 ?_ hl _ ?_) ?_); omega; omega; try dsimp only)
    | ((with_reducible refine sb (laws_markIntS_eq _ 1 ?_ hr _ ?_) ?_); omega; omega; try dsimp only)
    | ((with_reducible refine sb (laws_heldIntS_eq _ 1 ?_ hr _ ?_) ?_); omega; omega; try dsimp only)
    | rw [laws_FnExactSchedCount.j0]
    | (with_reducible rfl))

end Go.Proofs.Ytpalgpgeicpaoaa.Pure
