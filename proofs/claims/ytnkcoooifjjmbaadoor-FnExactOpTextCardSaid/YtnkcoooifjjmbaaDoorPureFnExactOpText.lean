/- OpText of the program answers as the reference does, at every operation. No condition. -/
import Derived.Test.YtnkcoooifjjmbaaDoorQFnExactOpTextx2
namespace Go.Proofs.YtnkcoooifjjmbaaDoor.Pure
open Go.RowKit Go.Proofs.YtnkcoooifjjmbaaDoor.QFnExactOpText Go.Proofs.YtnkcoooifjjmbaaDoorW.PrintWords Go.Proofs.YtnkcoooifjjmbaaDoorW.PrintLast Go.Proofs.YtnkcoooifjjmbaaDoorW.PrintMore
set_option linter.unusedVariables false
set_option linter.unusedSimpArgs false

theorem w64 {x : Int} (h0 : -9223372036854775808 ≤ x) (h1 : x ≤ 9223372036854775807) : wrap64 x = x := by
  unfold wrap64
  omega
theorem wnext (i : Nat) (h : i < 9223372036854775807) : wrap64 ((i : Int) + 1) = ((i + 1 : Nat) : Int) := by
  unfold wrap64
  omega
theorem rdOf_at {α : Type} (d : α) (l : List α) (i : Nat) (h : i < l.length) : rdOf d l (i : Int) = l[i] := by
  simp [rdOf, List.getD, h]
theorem rd_at (l : List Int) (i : Nat) (h : i < l.length) : rd l (i : Int) = l[i] := by
  simp [rd, List.getD, h]
theorem set_step {α : Type} (l m : List α) (i : Nat) (v : α) (hl : l.length = m.length) (hi : i < m.length) (hv : m[i]? = some v)
    (hp : ∀ j, j < i → l[j]? = m[j]?) : (l.set i v).length = m.length ∧ ∀ j, j < i + 1 → (l.set i v)[j]? = m[j]? := by
  refine ⟨by simp [hl], fun j hj => ?_⟩
  rw [List.getElem?_set]
  by_cases e : i = j
  · subst e
    rw [if_pos rfl, if_pos (by omega), hv]
  · rw [if_neg e]
    exact hp j (by omega)
theorem all_eq {α : Type} (l m : List α) (hl : l.length = m.length) (hp : ∀ j, j < m.length → l[j]? = m[j]?) : l = m := by
  apply List.ext_getElem?
  intro j
  by_cases hj : j < m.length
  · exact hp j hj
  · rw [List.getElem?_eq_none (by omega), List.getElem?_eq_none (by omega)]

theorem b64 {n : Int} (h : (Lit.int .i64 n).wf = true) : -9223372036854775808 ≤ n ∧ n ≤ 9223372036854775807 := by
  simp [Lit.wf, IntKind.min, IntKind.max, IntKind.signed, IntKind.bits] at h
  omega
theorem b8 {n : Int} (h : (Lit.int .u8 n).wf = true) : 0 ≤ n ∧ n ≤ 255 := by
  simp [Lit.wf, IntKind.min, IntKind.max, IntKind.signed, IntKind.bits] at h
  omega

theorem ba_ext {a b : ByteArray} (h : a.data.toList = b.data.toList) : a = b := by
  cases a; cases b
  congr
  exact Array.toList_inj.1 h
theorem bs_append (a b : List UInt8) : (⟨a.toArray⟩ : ByteArray) ++ (⟨b.toArray⟩ : ByteArray) = ⟨(a ++ b).toArray⟩ := by
  apply ba_ext
  simp [ByteArray.data_append]
theorem ba_assoc (a b c : ByteArray) : a ++ b ++ c = a ++ (b ++ c) := by
  apply ba_ext
  simp [ByteArray.data_append]
def ddig (u : Nat) : List UInt8 := if u = 0 then [] else Lib.decDigits u
theorem ddig_step (u : Nat) (h : u ≠ 0) : ddig u = ddig (u / 10) ++ [UInt8.ofNat (48 + u % 10)] := by
  unfold ddig
  rw [if_neg h, Lib.decDigits]
  by_cases h1 : u < 10
  · rw [dif_pos h1, if_pos (by omega), List.nil_append, show u % 10 = u by omega]
  · rw [dif_neg h1, if_neg (by omega)]
def preS (neg : Bool) : ByteArray := if neg = true then ⟨#[45]⟩ else ⟨#[]⟩
theorem ddig_len (d : Nat) : ∀ u : Nat, u < 10 ^ d → (ddig u).length ≤ d := by
  induction d with
  | zero =>
    intro u h
    have : u = 0 := by simpa using h
    subst this
    simp [ddig]
  | succ d ih =>
    intro u h
    by_cases h0 : u = 0
    · subst h0
      simp [ddig]
    · rw [ddig_step u h0, List.length_append]
      have := ih (u / 10) (by rw [Nat.pow_succ] at h; omega)
      simp
      omega
theorem dec_go (neg : Bool) (d : Nat) : ∀ (k : Nat) (x : Int) (acc : List UInt8), x.natAbs < 10 ^ d → -9223372036854775808 ≤ x ∧ x ≤ 9223372036854775807 → acc.length + d ≤ 1000 → d < k →
    spec_l9Dec.l0 k x ⟨acc.toArray⟩ neg = some (preS neg ++ ⟨(ddig x.natAbs ++ acc).toArray⟩) := by
  induction d with
  | zero =>
    intro k x acc h _ ha hk
    obtain ⟨k, rfl⟩ : ∃ m, k = m + 1 := ⟨k - 1, by omega⟩
    have h0 : x = 0 := by
      have : x.natAbs = 0 := by simpa using h
      omega
    subst h0
    simp only [spec_l9Dec.l0]
    have hs : (⟨acc.toArray⟩ : ByteArray).size = acc.length := by simp [ByteArray.size]
    rw [if_pos trivial, hs]
    cases neg with
    | true =>
      rw [if_pos rfl, if_pos (by omega)]
      rfl
    | false =>
      rw [if_neg (by decide)]
      apply congrArg some
      apply ba_ext
      simp [preS, ddig, ByteArray.data_append]
  | succ d ih =>
    intro k x acc h hx ha hk
    obtain ⟨k, rfl⟩ : ∃ m, k = m + 1 := ⟨k - 1, by omega⟩
    have hs : (⟨acc.toArray⟩ : ByteArray).size = acc.length := by simp [ByteArray.size]
    by_cases h0 : x = 0
    · subst h0
      simp only [spec_l9Dec.l0]
      rw [if_pos trivial, hs]
      cases neg with
      | true =>
        rw [if_pos rfl, if_pos (by omega)]
        rfl
      | false =>
        rw [if_neg (by decide)]
        apply congrArg some
        apply ba_ext
        simp [preS, ddig, ByteArray.data_append]
    · simp only [spec_l9Dec.l0]
      rw [if_neg h0]
      have hu : x.natAbs ≠ 0 := by omega
      have hq : (Int.tdiv x 10).natAbs = x.natAbs / 10 := by rw [Int.natAbs_tdiv]; rfl
      have hm : (Int.tmod x 10).natAbs = x.natAbs % 10 := by rw [Int.natAbs_tmod]; rfl
      have hlt : x.natAbs / 10 < 10 ^ d := by rw [Nat.pow_succ] at h; omega
      have hq2 : -9223372036854775808 ≤ Int.tdiv x 10 ∧ Int.tdiv x 10 ≤ 9223372036854775807 := by omega
      have rec_ := ih k (Int.tdiv x 10) (UInt8.ofNat (48 + x.natAbs % 10) :: acc) (by rw [hq]; exact hlt) hq2 (by simp; omega) (by omega)
      have fin : ∀ n : Int, n = 48 + ((x.natAbs % 10 : Nat) : Int) → ((some (([n % 256] : List Int) : List Int)).bind fun y => (if (strOfNums y).size + (⟨acc.toArray⟩ : ByteArray).size ≤ 9223372036854775807 then (spec_l9Dec.l0 k (wrap64 (Int.tdiv x 10)) ((strOfNums y) ++ ⟨acc.toArray⟩) neg) else (none))) = some (preS neg ++ ⟨(ddig x.natAbs ++ acc).toArray⟩) := by
        intro n hn
        have e1 : strOfNums [n % 256] = ⟨[UInt8.ofNat (48 + x.natAbs % 10)].toArray⟩ := by
          unfold strOfNums
          rw [show n % 256 = ((48 + x.natAbs % 10 : Nat) : Int) by omega]
          rfl
        simp only [Option.bind_some]
        rw [e1, bs_append, hs, if_pos (by simp [ByteArray.size]; omega), w64 hq2.1 hq2.2, List.singleton_append, rec_, hq, ddig_step x.natAbs hu, List.append_assoc, List.singleton_append]
      by_cases hneg : Int.tmod x 10 < 0
      · rw [if_pos hneg]
        exact fin _ (by rw [w64 (x := -Int.tmod x 10) (by omega) (by omega), w64 (by omega) (by omega)]; omega)
      · rw [if_neg hneg]
        exact fin _ (by rw [w64 (by omega) (by omega)]; omega)
theorem dec_eq (x : Int) (hx : -9223372036854775808 ≤ x ∧ x ≤ 9223372036854775807) (k : Nat) (hk : 20 < k) : spec_l9Dec.f k x = some (itoaS x) := by
  unfold spec_l9Dec.f
  by_cases h0 : x = 0
  · subst h0
    rw [if_pos rfl]
    apply congrArg some
    unfold itoaS Lib.itoa
    rw [if_neg (by decide), Lib.decDigits, dif_pos (by decide)]
    rfl
  · rw [if_neg h0]
    have := dec_go (decide (x < 0)) 20 k x [] (by have : (10 : Nat) ^ 20 = 100000000000000000000 := by decide
                                                  omega) hx (by simp) hk
    refine this.trans (congrArg some ?_)
    rw [List.append_nil]
    unfold itoaS Lib.itoa ddig
    rw [if_neg (show ¬ x.natAbs = 0 by omega)]
    by_cases hn : x < 0
    · rw [decide_eq_true hn, if_pos hn]
      exact bs_append [45] _
    · rw [decide_eq_false hn, if_neg hn, show x.natAbs = x.toNat by omega]
      exact bs_append [] _

theorem shape_same (a b : Int) : impl_ShapeOk.f a b = spec_ShapeOk.f a b := rfl
theorem ok_same (a0 a1 a2 a3 a4 a5 a6 a7 : Int) : impl_OpOk.f a0 a1 a2 a3 a4 a5 a6 a7 = spec_OpOk.f a0 a1 a2 a3 a4 a5 a6 a7 := rfl
theorem ok_some (a0 a1 a2 a3 a4 a5 a6 a7 : Int) : ∃ r, spec_OpOk.f a0 a1 a2 a3 a4 a5 a6 a7 = some r ∧ (r = true → 1 ≤ a0 ∧ a0 ≤ 11) := by
  unfold spec_OpOk.f spec_ShapeOk.f
  by_cases h1 : a0 ≥ 1
  · rw [if_pos h1]
    by_cases h2 : a0 ≤ 11
    · rw [if_pos h2]
      repeat (first | exact ⟨_, rfl, fun _ => ⟨h1, h2⟩⟩ | split)
    · rw [if_neg h2]
      exact ⟨_, rfl, fun h => Bool.noConfusion h⟩
  · rw [if_neg h1]
    exact ⟨_, rfl, fun h => Bool.noConfusion h⟩
theorem word_eq (a0 : Int) (h1 : 1 ≤ a0) (h2 : a0 ≤ 11) : spec_l11Word.f a0 = some (wordOf a0) := by
  have : a0 = 1 ∨ a0 = 2 ∨ a0 = 3 ∨ a0 = 4 ∨ a0 = 5 ∨ a0 = 6 ∨ a0 = 7 ∨ a0 = 8 ∨ a0 = 9 ∨ a0 = 10 ∨ a0 = 11 := by omega
  rcases this with rfl | rfl | rfl | rfl | rfl | rfl | rfl | rfl | rfl | rfl | rfl <;> rfl
theorem nums_eq (a0 a1 a2 a3 a4 a5 a6 a7 : Int) (h1 : 1 ≤ a0) (h2 : a0 ≤ 11) (k : Nat) (hk : 0 < k) : spec_l11Nums.f k a0 a1 a2 a3 a4 a5 a6 a7 = some ((offsOf a0).map fun o => [a0, a1, a2, a3, a4, a5, a6, a7].getD o 0) := by
  obtain ⟨k, rfl⟩ : ∃ m, k = m + 1 := ⟨k - 1, by omega⟩
  have : a0 = 1 ∨ a0 = 2 ∨ a0 = 3 ∨ a0 = 4 ∨ a0 = 5 ∨ a0 = 6 ∨ a0 = 7 ∨ a0 = 8 ∨ a0 = 9 ∨ a0 = 10 ∨ a0 = 11 := by omega
  rcases this with rfl | rfl | rfl | rfl | rfl | rfl | rfl | rfl | rfl | rfl | rfl <;> rfl
theorem loop_go (src : List Int) (L : List Nat) (hL : L.length ≤ 4) (d : Nat) : ∀ (k i : Nat) (s : ByteArray), s.size ≤ 5 + 22 * i → i ≤ L.length → L.length - i = d → d + 21 < k →
    spec_OpText.l0 k s (L.map fun o => src.getD o 0) (i : Int) = some (opLoop src (L.drop i) s) := by
  induction d with
  | zero =>
    intro k i s hs hi hd hk
    obtain ⟨k, rfl⟩ : ∃ m, k = m + 1 := ⟨k - 1, by omega⟩
    simp only [spec_OpText.l0]
    rw [if_neg (by simp; omega), List.drop_eq_nil_of_le (by omega)]
    rfl
  | succ d ih =>
    intro k i s hs hi hd hk
    obtain ⟨k, rfl⟩ : ∃ m, k = m + 1 := ⟨k - 1, by omega⟩
    have hil : i < L.length := by omega
    simp only [spec_OpText.l0]
    rw [if_pos (by simp; omega), if_pos (by omega), rd_at _ i (by simpa using hil), List.getElem_map, List.drop_eq_getElem_cons hil, opLoop]
    generalize src.getD L[i] 0 = x
    by_cases c1 : x < -999999999
    · rw [if_pos c1, if_neg (by simp [sizedB]; omega)]
    · rw [if_neg c1]
      by_cases c2 : x > 999999999
      · rw [if_pos c2, if_neg (by simp [sizedB]; omega)]
      · have hz : sizedB x = true := by simp [sizedB]; omega
        have hw := itoaS_size (sized_wf hz)
        have hb : (s ++ (⟨#[32]⟩ : ByteArray)).size = s.size + 1 := by rw [bytes_size]; rfl
        rw [if_neg c2, if_pos (by omega), dec_eq x ⟨by omega, by omega⟩ k (by omega), Option.bind_some, if_pos (by rw [hb]; omega), wnext i (by omega), if_pos hz, ba_assoc]
        exact ih k (i + 1) _ (by rw [bytes_size, bytes_size]; show s.size + (1 + (itoaS x).size) ≤ _; omega) (by omega) (by omega) (by omega)
theorem FnExactOpText (a0 a1 a2 a3 a4 a5 a6 a7 : Int) (_ : (Lit.int .i64 a0).wf = true) (_ : (Lit.int .i64 a1).wf = true) (_ : (Lit.int .i64 a2).wf = true) (_ : (Lit.int .i64 a3).wf = true) (_ : (Lit.int .i64 a4).wf = true) (_ : (Lit.int .i64 a5).wf = true) (_ : (Lit.int .i64 a6).wf = true) (_ : (Lit.int .i64 a7).wf = true) : ∃ k, laws_FnExactOpText.f k a0 a1 a2 a3 a4 a5 a6 a7 = some true := by
  refine ⟨100, ?_⟩
  unfold laws_FnExactOpText.f spec_OpText.f impl_OpText.f
  obtain ⟨r, hr, hr2⟩ := ok_some a0 a1 a2 a3 a4 a5 a6 a7
  rw [ok_same, hr]
  simp only [Option.bind_some]
  cases r with
  | false => rfl
  | true =>
    obtain ⟨h1, h2⟩ := hr2 rfl
    rw [if_pos rfl, if_pos rfl, if_pos ⟨h1, h2⟩, word_eq a0 h1 h2, nums_eq a0 a1 a2 a3 a4 a5 a6 a7 h1 h2 100 (by omega)]
    simp only [Option.bind_some]
    have := loop_go [a0, a1, a2, a3, a4, a5, a6, a7] (offsOf a0) (offs_len a0) (offsOf a0).length 100 0 (wordOf a0) (by have := word_len a0; omega) (by omega) rfl (by have := offs_len a0; omega)
    rw [List.drop_zero] at this
    have z : ((0 : Nat) : Int) = 0 := rfl
    rw [z] at this
    rw [this]
    simp

end Go.Proofs.YtnkcoooifjjmbaaDoor.Pure
