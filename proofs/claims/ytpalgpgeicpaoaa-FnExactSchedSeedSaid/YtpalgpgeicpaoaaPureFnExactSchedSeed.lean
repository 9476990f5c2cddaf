/- SchedSeed of the program answers as the reference does, at all ints, with new memory each time. No condition. -/
import Derived.Test.YtpalgpgeicpaoaaPFnExactSchedSeedx2
namespace Go.Proofs.Ytpalgpgeicpaoaa.Pure
open Go.RowKit Go.Proofs.Ytpalgpgeicpaoaa.PFnExactSchedSeed Go.Proofs.YtpalgpgeicpaoaaW.PrintWords Go.Proofs.YtpalgpgeicpaoaaW.PrintLast
set_option linter.unusedVariables false
set_option linter.unusedSimpArgs false

theorem w64 {x : Int} (h0 : -9223372036854775808 ≤ x) (h1 : x ≤ 9223372036854775807) : wrap64 x = x := by
  unfold wrap64
  omega
theorem wnext (i : Nat) (h : i < 9223372036854775807) : wrap64 ((i : Int) + 1) = ((i + 1 : Nat) : Int) := by
  unfold wrap64
  omega
theorem rdOf_at {α : Type} (d : α) (l : List α) (i : Nat) (h : i < l.length) : rdOf d l (i : Int) = l[i] := by
  simp [rdOf, List.getD, h]
theorem rd_at (l : List Int) (i : Nat) (h : i < l.length) : rd l (i : Int) = l[i] := by
  simp [rd, List.getD, h]
theorem set_step {α : Type} (l m : List α) (i : Nat) (v : α) (hl : l.length = m.length) (hi : i < m.length) (hv : m[i]? = some v)
    (hp : ∀ j, j < i → l[j]? = m[j]?) : (l.set i v).length = m.length ∧ ∀ j, j < i + 1 → (l.set i v)[j]? = m[j]? := by
  refine ⟨by simp [hl], fun j hj => ?_⟩
  rw [List.getElem?_set]
  by_cases e : i = j
  · subst e
    rw [if_pos rfl, if_pos (by omega), hv]
  · rw [if_neg e]
    exact hp j (by omega)
theorem all_eq {α : Type} (l m : List α) (hl : l.length = m.length) (hp : ∀ j, j < m.length → l[j]? = m[j]?) : l = m := by
  apply List.ext_getElem?
  intro j
  by_cases hj : j < m.length
  · exact hp j hj
  · rw [List.getElem?_eq_none (by omega), List.getElem?_eq_none (by omega)]

theorem b64 {n : Int} (h : (Lit.int .i64 n).wf = true) : -9223372036854775808 ≤ n ∧ n ≤ 9223372036854775807 := by
  simp [Lit.wf, IntKind.min, IntKind.max, IntKind.signed, IntKind.bits] at h
  omega
theorem b8 {n : Int} (h : (Lit.int .u8 n).wf = true) : 0 ≤ n ∧ n ≤ 255 := by
  simp [Lit.wf, IntKind.min, IntKind.max, IntKind.signed, IntKind.bits] at h
  omega

theorem tdiv_nn {a : Int} (h : 0 ≤ a) (b : Int) : Int.tdiv a b = a / b := Int.tdiv_eq_ediv_of_nonneg h
theorem tmod_nn {a : Int} (h : 0 ≤ a) (b : Int) : Int.tmod a b = a % b := Int.tmod_eq_emod_of_nonneg h

theorem laws_eqIntS_go (l : List Int) (hl : l.length ≤ 1048576) (d : Nat) : ∀ (k i : Nat), i ≤ l.length → l.length - i = d → d < k → laws_eqIntS.l0 k l l (i : Int) = some true := by
  induction d with
  | zero =>
    intro k i hi hd hk
    obtain ⟨k, rfl⟩ : ∃ m, k = m + 1 := ⟨k - 1, by omega⟩
    simp only [laws_eqIntS.l0]
    rw [if_neg (by omega)]
  | succ d ih =>
    intro k i hi hd hk
    obtain ⟨k, rfl⟩ : ∃ m, k = m + 1 := ⟨k - 1, by omega⟩
    simp only [laws_eqIntS.l0]
    rw [if_pos (by omega), if_pos (by omega), if_pos (by omega), wnext i (by omega), if_pos trivial]
    exact ih k (i + 1) (by omega) (by omega) (by omega)
theorem laws_eqIntS_self (l : List Int) (hl : l.length ≤ 1048576) (k : Nat) (hk : 1048576 < k) : laws_eqIntS.f k l l = some true := by
  unfold laws_eqIntS.f
  rw [if_pos rfl]
  exact laws_eqIntS_go l hl l.length k 0 (by omega) (by omega) (by omega)

def laws_markIntS_list (l : List Int) (n : Int) : List Int := (List.range l.length).map fun j : Nat => (fun m : Int => m) (n + (j : Int))
theorem laws_markIntS_list_length (l : List Int) (n : Int) : (laws_markIntS_list l n).length = l.length := by simp [laws_markIntS_list]
theorem laws_markIntS_list_at (l : List Int) (n : Int) (i : Nat) (h : i < l.length) : (laws_markIntS_list l n)[i]? = some ((fun m : Int => m) (n + (i : Int))) := by simp [laws_markIntS_list, h]
theorem laws_markIntS_go (l : List Int) (n : Int) (hn : 0 ≤ n ∧ n ≤ 4611686018427387904) (hl : l.length ≤ 1048576) (d : Nat) : ∀ (k i : Nat) (acc : List Int), acc.length = (laws_markIntS_list l n).length → i ≤ l.length → l.length - i = d → d < k →
    (∀ j, j < i → acc[j]? = (laws_markIntS_list l n)[j]?) → laws_markIntS.l0 k acc (n + (i : Int)) (i : Int) = some (n + (l.length : Int), laws_markIntS_list l n) := by
  induction d with
  | zero =>
    intro k i acc ha hi hd hk hp
    obtain ⟨k, rfl⟩ : ∃ m, k = m + 1 := ⟨k - 1, by omega⟩
    have hL := laws_markIntS_list_length l n
    simp only [laws_markIntS.l0]
    rw [if_neg (by omega), all_eq acc (laws_markIntS_list l n) ha (fun j hj => hp j (by omega)), show i = l.length by omega]
  | succ d ih =>
    intro k i acc ha hi hd hk hp
    obtain ⟨k, rfl⟩ : ∃ m, k = m + 1 := ⟨k - 1, by omega⟩
    have hL := laws_markIntS_list_length l n
    simp only [laws_markIntS.l0]
    rw [if_pos (by omega), if_pos (by omega), wnext i (by omega), Int.toNat_natCast, w64 (by omega) (by omega), show n + (i : Int) + 1 = n + ((i + 1 : Nat) : Int) by omega]
    obtain ⟨h1, h2⟩ := set_step acc (laws_markIntS_list l n) i _ ha (by omega) (laws_markIntS_list_at l n i (by omega)) hp
    exact ih k (i + 1) _ h1 (by omega) (by omega) (by omega) h2
theorem laws_markIntS_eq (l : List Int) (n : Int) (hn : 0 ≤ n ∧ n ≤ 4611686018427387904) (hl : l.length ≤ 1048576) (k : Nat) (hk : 1048576 < k) : laws_markIntS.f k l n = some (n + (l.length : Int), laws_markIntS_list l n) := by
  have hL := laws_markIntS_list_length l n
  have h := laws_markIntS_go l n hn hl l.length k 0 l (by omega) (by omega) (by omega) (by omega) (by intro j hj; omega)
  unfold laws_markIntS.f
  simpa using h

theorem laws_heldIntS_go (l : List Int) (n : Int) (hn : 0 ≤ n ∧ n ≤ 4611686018427387904) (hl : l.length ≤ 1048576) (d : Nat) : ∀ (k i : Nat), i ≤ l.length → l.length - i = d → d < k →
    laws_heldIntS.l0 k (laws_markIntS_list l n) (n + (i : Int)) (i : Int) = some (n + (l.length : Int)) := by
  induction d with
  | zero =>
    intro k i hi hd hk
    obtain ⟨k, rfl⟩ : ∃ m, k = m + 1 := ⟨k - 1, by omega⟩
    have hL := laws_markIntS_list_length l n
    simp only [laws_heldIntS.l0]
    rw [if_neg (by omega), show i = l.length by omega]
  | succ d ih =>
    intro k i hi hd hk
    obtain ⟨k, rfl⟩ : ∃ m, k = m + 1 := ⟨k - 1, by omega⟩
    have hL := laws_markIntS_list_length l n
    have hv : (laws_markIntS_list l n)[i] = (fun m : Int => m) (n + (i : Int)) := by simp [laws_markIntS_list]
    simp only [laws_heldIntS.l0]
    rw [if_pos (by omega), if_pos (by omega), rd_at (laws_markIntS_list l n) i (by omega), hv, if_pos rfl, wnext i (by omega), w64 (by omega) (by omega), show n + (i : Int) + 1 = n + ((i + 1 : Nat) : Int) by omega]
    exact ih k (i + 1) (by omega) (by omega) (by omega)
theorem laws_heldIntS_eq (l : List Int) (n : Int) (hn : 0 ≤ n ∧ n ≤ 4611686018427387904) (hl : l.length ≤ 1048576) (k : Nat) (hk : 1048576 < k) : laws_heldIntS.f k (laws_markIntS_list l n) n = some (n + (l.length : Int)) := by
  have h := laws_heldIntS_go l n hn hl l.length k 0 (by omega) (by omega) (by omega)
  unfold laws_heldIntS.f
  simpa using h

theorem neg_len (n : Nat) : ¬ ((1 : Int) + (n : Int) < 0) := by omega
theorem bne_no (b : Bool) : ¬ ((b != b) = true) := by simp
theorem ff : ¬ (false = true) := by simp
theorem ntt : ¬ ((!true) = true) := by simp
theorem sb {α β : Type} {o : Option α} {v : α} {f : α → Option β} {r : Option β} (h : o = some v) (k : f v = r) : o.bind f = r := by rw [h]; exact k
theorem st {α : Type} {c : Prop} [Decidable c] {a b r : α} (h : c) (k : a = r) : (if c then a else b) = r := by rw [if_pos h]; exact k
theorem sf {α : Type} {c : Prop} [Decidable c] {a b r : α} (h : ¬ c) (k : b = r) : (if c then a else b) = r := by rw [if_neg h]; exact k

theorem wM {M : Nat} (h : 2 ≤ M ∧ M ≤ 4) : wrap64 ((M : Int) - 1 + 1) = (M : Int) := by
  rw [w64 (by omega) (by omega)]
  omega

theorem seed_same (k : Nat) : ∀ (a n : Int) (acc : List Int) (s i : Int), impl_SchedSeed.l0 k a s acc n i = spec_SchedSeed.l0 k a n acc s i := by
  induction k with
  | zero => intro a n acc s i; rfl
  | succ k ih =>
    intro a n acc s i
    simp only [impl_SchedSeed.l0, spec_SchedSeed.l0, ih, Int.mul_comm 1103515245 s]
theorem seed_in (M : Nat) (hM : 2 ≤ M ∧ M ≤ 4) (y : Int) (h0 : 0 ≤ y) : 0 ≤ Int.tmod (wrap64 (Int.tdiv (Int.tmod y 2147483648) 65536)) (M : Int) ∧ Int.tmod (wrap64 (Int.tdiv (Int.tmod y 2147483648) 65536)) (M : Int) < (M : Int) := by
  have m0 : 0 ≤ Int.tmod y 2147483648 := Int.tmod_nonneg _ h0
  have m1 : Int.tmod y 2147483648 < 2147483648 := Int.tmod_lt_of_pos _ (by omega)
  have d0 : 0 ≤ Int.tdiv (Int.tmod y 2147483648) 65536 := Int.tdiv_nonneg m0 (by omega)
  have d1 : Int.tdiv (Int.tmod y 2147483648) 65536 ≤ Int.tmod y 2147483648 := by
    rw [Int.tdiv_eq_ediv_of_nonneg m0]
    exact Int.ediv_le_self _ m0
  rw [w64 (by omega) (by omega)]
  exact ⟨Int.tmod_nonneg _ d0, Int.tmod_lt_of_pos _ (by omega)⟩
def AllIn (M : Nat) (l : List Int) : Prop := ∀ x ∈ l, 0 ≤ x ∧ x < (M : Int)
theorem seed_some (M n : Nat) (hM : 2 ≤ M ∧ M ≤ 4) (hn : n ≤ 4000) (d : Nat) : ∀ (i : Nat) (acc : List Int) (s : Int), i ≤ n → n - i = d → acc.length = i → 0 ≤ s ∧ s < 2147483648 → AllIn M acc →
    ∃ r, r.length = n ∧ AllIn M r ∧ (∃ t, r = acc ++ t) ∧ ∀ k, d < k → spec_SchedSeed.l0 k ((M : Int) - 1) (n : Int) acc s (i : Int) = some r := by
  induction d with
  | zero =>
    intro i acc s hi hd hl hs ha
    refine ⟨acc, by omega, ha, ⟨[], by simp⟩, fun k hk => ?_⟩
    obtain ⟨k, rfl⟩ : ∃ m, k = m + 1 := ⟨k - 1, by omega⟩
    simp only [spec_SchedSeed.l0]
    rw [if_neg (by omega)]
  | succ d ih =>
    intro i acc s hi hd hl hs ha
    have b0 : wrap64 (s * 1103515245) = s * 1103515245 := w64 (by omega) (by omega)
    have b1 : wrap64 (s * 1103515245 + 12345) = s * 1103515245 + 12345 := w64 (by omega) (by omega)
    have hin := seed_in M hM (s * 1103515245 + 12345) (by omega)
    have m0 : 0 ≤ Int.tmod (s * 1103515245 + 12345) 2147483648 := Int.tmod_nonneg _ (by omega)
    have m1 : Int.tmod (s * 1103515245 + 12345) 2147483648 < 2147483648 := Int.tmod_lt_of_pos _ (by omega)
    generalize hx : Int.tmod (wrap64 (Int.tdiv (Int.tmod (s * 1103515245 + 12345) 2147483648) 65536)) (M : Int) = x at hin
    obtain ⟨r, h1, h2, ⟨t, ht⟩, h3⟩ := ih (i + 1) (acc ++ [x]) _ (by omega) (by omega) (by simp [hl]) ⟨m0, m1⟩ (by
      intro y hy
      rcases List.mem_append.1 hy with hy | hy
      · exact ha y hy
      · rw [List.mem_singleton.1 hy]
        exact hin)
    refine ⟨r, h1, h2, ⟨x :: t, by rw [ht, List.append_assoc]; rfl⟩, fun k hk => ?_⟩
    obtain ⟨k, rfl⟩ : ∃ m, k = m + 1 := ⟨k - 1, by omega⟩
    simp only [spec_SchedSeed.l0]
    rw [wM hM, b0, b1, hx, if_pos (by omega), if_neg (by omega), if_pos (by omega), wnext i (by omega)]
    exact h3 k (by omega)
theorem seed_both (a b c : Int) :
    ∃ r, r.length ≤ 4000 ∧ (∀ K, 100000 < K → spec_SchedSeed.f K a b c = some r ∧ impl_SchedSeed.f K a b c = some r) ∧
      (r = [] ∨ ∃ M n : Nat, 2 ≤ M ∧ M ≤ 4 ∧ n ≤ 4000 ∧ a = (M : Int) - 1 ∧ c = (n : Int) ∧ (0 ≤ b ∧ b < 2147483648) ∧ r.length = n ∧ AllIn M r) := by
  have none_of : ∀ K, 100000 < K → spec_SchedSeed.j0 K a b c true = some [] ∧ impl_SchedSeed.j0 K a b c true = some [] := by
    intro K hK
    obtain ⟨K, rfl⟩ : ∃ m, K = m + 1 := ⟨K - 1, by omega⟩
    simp only [spec_SchedSeed.j0, impl_SchedSeed.j0, if_true, and_self]
  by_cases h1 : 1 ≤ a ∧ a ≤ 3
  · have e1 : spec_l18Ok.f a = some true := by
      unfold spec_l18Ok.f
      rw [if_pos h1.1, decide_eq_true h1.2]
    have e2 : impl_threadsOk.f a = some true := by
      unfold impl_threadsOk.f
      rw [if_pos h1.1, decide_eq_true h1.2]
    have bad : ¬ ((0 ≤ b ∧ b < 2147483648) ∧ 0 ≤ c ∧ c ≤ 4000) → ∀ K, 100000 < K → spec_SchedSeed.f K a b c = some [] ∧ impl_SchedSeed.f K a b c = some [] := by
      intro hbad K hK
      unfold spec_SchedSeed.f impl_SchedSeed.f
      rw [e1, e2]
      simp only [Option.bind_some, if_true]
      by_cases g1 : b < 0
      · rw [if_pos g1, if_pos g1]
        exact none_of K hK
      by_cases g2 : b ≥ 2147483648
      · rw [if_neg g1, if_pos g2, if_neg g1, if_pos (by omega)]
        exact none_of K hK
      by_cases g3 : c < 0
      · rw [if_neg g1, if_neg g2, if_pos g3, if_neg g1, if_neg (by omega), if_pos g3]
        exact none_of K hK
      · rw [if_neg g1, if_neg g2, if_neg g3, if_neg g1, if_neg (by omega), if_neg g3, decide_eq_true (by omega)]
        exact none_of K hK
    by_cases hg : (0 ≤ b ∧ b < 2147483648) ∧ 0 ≤ c ∧ c ≤ 4000
    · obtain ⟨hb, hc⟩ := hg
      obtain ⟨M, rfl⟩ : ∃ M : Nat, a = (M : Int) - 1 := ⟨(a + 1).toNat, by omega⟩
      obtain ⟨n, rfl⟩ : ∃ n : Nat, c = (n : Int) := ⟨c.toNat, by omega⟩
      have hM : 2 ≤ M ∧ M ≤ 4 := by omega
      obtain ⟨r, r1, r2, _, r3⟩ := seed_some M n hM (by omega) n 0 [] b (by omega) (by omega) rfl hb (by intro x hx; simp at hx)
      refine ⟨r, by omega, fun K hK => ?_, .inr ⟨M, n, hM.1, hM.2, by omega, rfl, rfl, hb, r1, r2⟩⟩
      obtain ⟨K, rfl⟩ : ∃ m, K = m + 1 := ⟨K - 1, by omega⟩
      have hr := r3 K (by omega)
      unfold spec_SchedSeed.f impl_SchedSeed.f
      rw [e1, e2]
      simp only [Option.bind_some, if_true]
      rw [if_neg (by omega), if_neg (by omega), if_neg (by omega), if_neg (by omega), if_neg (by omega), if_neg (by omega), decide_eq_false (by omega)]
      simp only [spec_SchedSeed.j0, impl_SchedSeed.j0, Bool.false_eq_true, if_false]
      rw [seed_same]
      exact ⟨hr, hr⟩
    · exact ⟨[], by simp, bad hg, .inl rfl⟩
  · refine ⟨[], by simp, fun K hK => ?_, .inl rfl⟩
    have e1 : spec_l18Ok.f a = some false := by
      unfold spec_l18Ok.f
      by_cases g : a ≥ 1
      · rw [if_pos g, decide_eq_false (by omega)]
      · rw [if_neg g]
    have e2 : impl_threadsOk.f a = some false := by
      unfold impl_threadsOk.f
      by_cases g : a ≥ 1
      · rw [if_pos g, decide_eq_false (by omega)]
      · rw [if_neg g]
    unfold spec_SchedSeed.f impl_SchedSeed.f
    rw [e1, e2]
    simp only [Option.bind_some, Bool.false_eq_true, if_false]
    exact none_of K hK

theorem FnExactSchedSeed : laws_FnExactSchedSeed.Pure := by
  intro a b c _ _ _
  obtain ⟨r, hl0, hr, _⟩ := seed_both a b c
  have hl : r.length ≤ 1048576 := by omega
  have hS : ∀ K, 100000 < K → spec_SchedSeed.f K a b c = some r := fun K hK => (hr K hK).1
  have hI : ∀ K, 100000 < K → impl_SchedSeed.f K a b c = some r := fun K hK => (hr K hK).2
  obtain ⟨K, hK⟩ : ∃ K, 1048576 < K := ⟨1048577, by omega⟩
  refine ⟨K, ?_⟩
  unfold laws_FnExactSchedSeed.f
  repeat (first
    | (with_reducible refine st rfl ?_)
    | (with_reducible refine sf (neg_len _) ?_)
    | (with_reducible refine sf (bne_no _) ?_)
    | (with_reducible refine sf ff ?_)
    | (with_reducible refine sf ntt ?_)
    | ((with_reducible refine sb (hS _ ?_) ?_); omega; try dsimp only)
    | ((with_reducible refine sb (hI _ ?_) ?_); omega; try dsimp only)
    | ((with_reducible refine sb (laws_eqIntS_self _ hl _ ?_) ?_); omega; try dsimp only)
    | ((with_reducible refine sb (laws_markIntS_eq _ 1 ?_ hl _ ?_) ?_); omega; omega; try dsimp only)
    | ((with_reducible refine sb (laws_heldIntS_eq _ 1 ?_ hl _ ?_) ?_); omega; omega; try dsimp only)
    | (with_reducible rfl))

end Go.Proofs.Ytpalgpgeicpaoaa.Pure
