/- PicksText of the program answers as the reference does, at every row of at most 2^20 picks, and leaves its argument alone. No condition. -/
import Derived.Test.YtnkcoooifjjmbaaDoorQFnExactPicksTextx3
namespace Go.Proofs.YtnkcoooifjjmbaaDoor.Pure
open Go.RowKit Go.Proofs.YtnkcoooifjjmbaaDoor.QFnExactPicksText Go.Proofs.YtnkcoooifjjmbaaDoorW.PrintWords Go.Proofs.YtnkcoooifjjmbaaDoorW.PrintLast Go.Proofs.YtnkcoooifjjmbaaDoorW.PrintMore
set_option linter.unusedVariables false
set_option linter.unusedSimpArgs false

theorem w64 {x : Int} (h0 : -9223372036854775808 ≤ x) (h1 : x ≤ 9223372036854775807) : wrap64 x = x := by
  unfold wrap64
  omega
theorem wnext (i : Nat) (h : i < 9223372036854775807) : wrap64 ((i : Int) + 1) = ((i + 1 : Nat) : Int) := by
  unfold wrap64
  omega
theorem rdOf_at {α : Type} (d : α) (l : List α) (i : Nat) (h : i < l.length) : rdOf d l (i : Int) = l[i] := by
  simp [rdOf, List.getD, h]
theorem rd_at (l : List Int) (i : Nat) (h : i < l.length) : rd l (i : Int) = l[i] := by
  simp [rd, List.getD, h]
theorem set_step {α : Type} (l m : List α) (i : Nat) (v : α) (hl : l.length = m.length) (hi : i < m.length) (hv : m[i]? = some v)
    (hp : ∀ j, j < i → l[j]? = m[j]?) : (l.set i v).length = m.length ∧ ∀ j, j < i + 1 → (l.set i v)[j]? = m[j]? := by
  refine ⟨by simp [hl], fun j hj => ?_⟩
  rw [List.getElem?_set]
  by_cases e : i = j
  · subst e
    rw [if_pos rfl, if_pos (by omega), hv]
  · rw [if_neg e]
    exact hp j (by omega)
theorem all_eq {α : Type} (l m : List α) (hl : l.length = m.length) (hp : ∀ j, j < m.length → l[j]? = m[j]?) : l = m := by
  apply List.ext_getElem?
  intro j
  by_cases hj : j < m.length
  · exact hp j hj
  · rw [List.getElem?_eq_none (by omega), List.getElem?_eq_none (by omega)]

theorem b64 {n : Int} (h : (Lit.int .i64 n).wf = true) : -9223372036854775808 ≤ n ∧ n ≤ 9223372036854775807 := by
  simp [Lit.wf, IntKind.min, IntKind.max, IntKind.signed, IntKind.bits] at h
  omega
theorem b8 {n : Int} (h : (Lit.int .u8 n).wf = true) : 0 ≤ n ∧ n ≤ 255 := by
  simp [Lit.wf, IntKind.min, IntKind.max, IntKind.signed, IntKind.bits] at h
  omega

theorem laws_toIntS_go (l : List Int) (hl : l.length ≤ 1048576) (d : Nat) : ∀ (k i : Nat) (acc : List Int), acc.length = l.length → i ≤ l.length → l.length - i = d → d < k →
    (∀ j, j < i → acc[j]? = l[j]?) → laws_toIntS.l0 k l acc (i : Int) = some l := by
  induction d with
  | zero =>
    intro k i acc ha hi hd hk hp
    obtain ⟨k, rfl⟩ : ∃ m, k = m + 1 := ⟨k - 1, by omega⟩
    simp only [laws_toIntS.l0]
    rw [if_neg (by omega)]
    exact congrArg some (all_eq acc l ha (fun j hj => hp j (by omega)))
  | succ d ih =>
    intro k i acc ha hi hd hk hp
    obtain ⟨k, rfl⟩ : ∃ m, k = m + 1 := ⟨k - 1, by omega⟩
    simp only [laws_toIntS.l0]
    rw [if_pos (by omega), if_pos (by omega), if_pos (by omega), wnext i (by omega), rd_at l i (by omega), Int.toNat_natCast]
    obtain ⟨h1, h2⟩ := set_step acc l i l[i] ha (by omega) (by simp) hp
    exact ih k (i + 1) _ h1 (by omega) (by omega) (by omega) h2
theorem laws_toIntS_eq (l : List Int) (hl : l.length ≤ 1048576) (k : Nat) (hk : 1048576 < k) : laws_toIntS.f k l = some l := by
  unfold laws_toIntS.f
  rw [if_pos (by omega), if_pos (by omega)]
  exact laws_toIntS_go l hl l.length k 0 _ (by simp) (by omega) (by omega) (by omega) (by intro j hj; omega)

theorem laws_eqIntS_go (l : List Int) (hl : l.length ≤ 1048576) (d : Nat) : ∀ (k i : Nat), i ≤ l.length → l.length - i = d → d < k → laws_eqIntS.l0 k l l (i : Int) = some true := by
  induction d with
  | zero =>
    intro k i hi hd hk
    obtain ⟨k, rfl⟩ : ∃ m, k = m + 1 := ⟨k - 1, by omega⟩
    simp only [laws_eqIntS.l0]
    rw [if_neg (by omega)]
  | succ d ih =>
    intro k i hi hd hk
    obtain ⟨k, rfl⟩ : ∃ m, k = m + 1 := ⟨k - 1, by omega⟩
    simp only [laws_eqIntS.l0]
    rw [if_pos (by omega), if_pos (by omega), if_pos (by omega), wnext i (by omega), if_pos trivial]
    exact ih k (i + 1) (by omega) (by omega) (by omega)
theorem laws_eqIntS_self (l : List Int) (hl : l.length ≤ 1048576) (k : Nat) (hk : 1048576 < k) : laws_eqIntS.f k l l = some true := by
  unfold laws_eqIntS.f
  rw [if_pos rfl]
  exact laws_eqIntS_go l hl l.length k 0 (by omega) (by omega) (by omega)

theorem neg_len (n : Nat) : ¬ ((1 : Int) + (n : Int) < 0) := by omega
theorem bne_no (b : Bool) : ¬ ((b != b) = true) := by simp
theorem ff : ¬ (false = true) := by simp
theorem ntt : ¬ ((!true) = true) := by simp
theorem sb {α β : Type} {o : Option α} {v : α} {f : α → Option β} {r : Option β} (h : o = some v) (k : f v = r) : o.bind f = r := by rw [h]; exact k
theorem st {α : Type} {c : Prop} [Decidable c] {a b r : α} (h : c) (k : a = r) : (if c then a else b) = r := by rw [if_pos h]; exact k
theorem sf {α : Type} {c : Prop} [Decidable c] {a b r : α} (h : ¬ c) (k : b = r) : (if c then a else b) = r := by rw [if_neg h]; exact k

theorem ba_ext {a b : ByteArray} (h : a.data.toList = b.data.toList) : a = b := by
  cases a; cases b
  congr
  exact Array.toList_inj.1 h
theorem bs_append (a b : List UInt8) : (⟨a.toArray⟩ : ByteArray) ++ (⟨b.toArray⟩ : ByteArray) = ⟨(a ++ b).toArray⟩ := by
  apply ba_ext
  simp [ByteArray.data_append]
theorem ba_assoc (a b c : ByteArray) : a ++ b ++ c = a ++ (b ++ c) := by
  apply ba_ext
  simp [ByteArray.data_append]
def ddig (u : Nat) : List UInt8 := if u = 0 then [] else Lib.decDigits u
theorem ddig_step (u : Nat) (h : u ≠ 0) : ddig u = ddig (u / 10) ++ [UInt8.ofNat (48 + u % 10)] := by
  unfold ddig
  rw [if_neg h, Lib.decDigits]
  by_cases h1 : u < 10
  · rw [dif_pos h1, if_pos (by omega), List.nil_append, show u % 10 = u by omega]
  · rw [dif_neg h1, if_neg (by omega)]
def preS (neg : Bool) : ByteArray := if neg = true then ⟨#[45]⟩ else ⟨#[]⟩
theorem ddig_len (d : Nat) : ∀ u : Nat, u < 10 ^ d → (ddig u).length ≤ d := by
  induction d with
  | zero =>
    intro u h
    have : u = 0 := by simpa using h
    subst this
    simp [ddig]
  | succ d ih =>
    intro u h
    by_cases h0 : u = 0
    · subst h0
      simp [ddig]
    · rw [ddig_step u h0, List.length_append]
      have := ih (u / 10) (by rw [Nat.pow_succ] at h; omega)
      simp
      omega
theorem dec_go (neg : Bool) (d : Nat) : ∀ (k : Nat) (x : Int) (acc : List UInt8), x.natAbs < 10 ^ d → -9223372036854775808 ≤ x ∧ x ≤ 9223372036854775807 → acc.length + d ≤ 1000 → d < k →
    spec_l9Dec.l0 k x ⟨acc.toArray⟩ neg = some (preS neg ++ ⟨(ddig x.natAbs ++ acc).toArray⟩) := by
  induction d with
  | zero =>
    intro k x acc h _ ha hk
    obtain ⟨k, rfl⟩ : ∃ m, k = m + 1 := ⟨k - 1, by omega⟩
    have h0 : x = 0 := by
      have : x.natAbs = 0 := by simpa using h
      omega
    subst h0
    simp only [spec_l9Dec.l0]
    have hs : (⟨acc.toArray⟩ : ByteArray).size = acc.length := by simp [ByteArray.size]
    rw [if_pos trivial, hs]
    cases neg with
    | true =>
      rw [if_pos rfl, if_pos (by omega)]
      rfl
    | false =>
      rw [if_neg (by decide)]
      apply congrArg some
      apply ba_ext
      simp [preS, ddig, ByteArray.data_append]
  | succ d ih =>
    intro k x acc h hx ha hk
    obtain ⟨k, rfl⟩ : ∃ m, k = m + 1 := ⟨k - 1, by omega⟩
    have hs : (⟨acc.toArray⟩ : ByteArray).size = acc.length := by simp [ByteArray.size]
    by_cases h0 : x = 0
    · subst h0
      simp only [spec_l9Dec.l0]
      rw [if_pos trivial, hs]
      cases neg with
      | true =>
        rw [if_pos rfl, if_pos (by omega)]
        rfl
      | false =>
        rw [if_neg (by decide)]
        apply congrArg some
        apply ba_ext
        simp [preS, ddig, ByteArray.data_append]
    · simp only [spec_l9Dec.l0]
      rw [if_neg h0]
      have hu : x.natAbs ≠ 0 := by omega
      have hq : (Int.tdiv x 10).natAbs = x.natAbs / 10 := by rw [Int.natAbs_tdiv]; rfl
      have hm : (Int.tmod x 10).natAbs = x.natAbs % 10 := by rw [Int.natAbs_tmod]; rfl
      have hlt : x.natAbs / 10 < 10 ^ d := by rw [Nat.pow_succ] at h; omega
      have hq2 : -9223372036854775808 ≤ Int.tdiv x 10 ∧ Int.tdiv x 10 ≤ 9223372036854775807 := by omega
      have rec_ := ih k (Int.tdiv x 10) (UInt8.ofNat (48 + x.natAbs % 10) :: acc) (by rw [hq]; exact hlt) hq2 (by simp; omega) (by omega)
      have fin : ∀ n : Int, n = 48 + ((x.natAbs % 10 : Nat) : Int) → ((some (([n % 256] : List Int) : List Int)).bind fun y => (if (strOfNums y).size + (⟨acc.toArray⟩ : ByteArray).size ≤ 9223372036854775807 then (spec_l9Dec.l0 k (wrap64 (Int.tdiv x 10)) ((strOfNums y) ++ ⟨acc.toArray⟩) neg) else (none))) = some (preS neg ++ ⟨(ddig x.natAbs ++ acc).toArray⟩) := by
        intro n hn
        have e1 : strOfNums [n % 256] = ⟨[UInt8.ofNat (48 + x.natAbs % 10)].toArray⟩ := by
          unfold strOfNums
          rw [show n % 256 = ((48 + x.natAbs % 10 : Nat) : Int) by omega]
          rfl
        simp only [Option.bind_some]
        rw [e1, bs_append, hs, if_pos (by simp [ByteArray.size]; omega), w64 hq2.1 hq2.2, List.singleton_append, rec_, hq, ddig_step x.natAbs hu, List.append_assoc, List.singleton_append]
      by_cases hneg : Int.tmod x 10 < 0
      · rw [if_pos hneg]
        exact fin _ (by rw [w64 (x := -Int.tmod x 10) (by omega) (by omega), w64 (by omega) (by omega)]; omega)
      · rw [if_neg hneg]
        exact fin _ (by rw [w64 (by omega) (by omega)]; omega)
theorem dec_eq (x : Int) (hx : -9223372036854775808 ≤ x ∧ x ≤ 9223372036854775807) (k : Nat) (hk : 20 < k) : spec_l9Dec.f k x = some (itoaS x) := by
  unfold spec_l9Dec.f
  by_cases h0 : x = 0
  · subst h0
    rw [if_pos rfl]
    apply congrArg some
    unfold itoaS Lib.itoa
    rw [if_neg (by decide), Lib.decDigits, dif_pos (by decide)]
    rfl
  · rw [if_neg h0]
    have := dec_go (decide (x < 0)) 20 k x [] (by have : (10 : Nat) ^ 20 = 100000000000000000000 := by decide
                                                  omega) hx (by simp) hk
    refine this.trans (congrArg some ?_)
    rw [List.append_nil]
    unfold itoaS Lib.itoa ddig
    rw [if_neg (show ¬ x.natAbs = 0 by omega)]
    by_cases hn : x < 0
    · rw [decide_eq_true hn, if_pos hn]
      exact bs_append [45] _
    · rw [decide_eq_false hn, if_neg hn, show x.natAbs = x.toNat by omega]
      exact bs_append [] _

def sizedB (x : Int) : Bool := decide (-999999999 ≤ x) && decide (x ≤ 999999999)
theorem bytes_size (a b : ByteArray) : (a ++ b).size = a.size + b.size := ByteArray.size_append
abbrev sp : ByteArray := ⟨#[32]⟩
def J (out : List ByteArray) : ByteArray := ⟨(joinL out sp).toArray⟩
theorem tail_snoc (sep : List UInt8) (y : List UInt8) : ∀ r : List (List UInt8), Lib.joinTail sep (r ++ [y]) = Lib.joinTail sep r ++ (sep ++ y) := by
  intro r
  simp [Lib.joinTail]
theorem J_nil : J [] = ⟨#[]⟩ := rfl
theorem J_one (s : ByteArray) : J [s] = s := by
  apply ba_ext
  show (Lib.join [s.data.toList] sp.data.toList).toArray.toList = s.data.toList
  rw [Lib.join_one]
theorem J_snoc (out : List ByteArray) (s : ByteArray) (h : out ≠ []) : J (out ++ [s]) = J out ++ sp ++ s := by
  match out, h with
  | x :: r, _ =>
    apply ba_ext
    show (Lib.join (((x :: r) ++ [s]).map (·.data.toList)) sp.data.toList).toArray.toList = _
    rw [List.map_append, List.map_cons, List.cons_append, Lib.join_cons, List.map_cons, List.map_nil, tail_snoc]
    have e : (J (x :: r)).data.toList = x.data.toList ++ Lib.joinTail sp.data.toList (r.map (·.data.toList)) := by
      show (Lib.join ((x :: r).map (·.data.toList)) sp.data.toList).toArray.toList = _
      rw [List.map_cons, Lib.join_cons]
    rw [ByteArray.data_append, ByteArray.data_append, Array.toList_append, Array.toList_append, e]
    simp
def runLen (x : Int) : List Int → Nat
  | [] => 0
  | y :: r => if y = x then runLen x r + 1 else 0
theorem runLen_le (x : Int) : ∀ l : List Int, runLen x l ≤ l.length
  | [] => Nat.le_refl _
  | y :: r => by
    have := runLen_le x r
    unfold runLen
    split <;> simp <;> omega
theorem wadd (i n : Nat) (h : i + n ≤ 4000) : wrap64 ((i : Int) + (n : Int)) = ((i + n : Nat) : Int) := by
  rw [w64 (by omega) (by omega)]
  omega
theorem spec_run (l : List Int) (i : Nat) (hi : i < l.length) (hl : l.length ≤ 4000) (acc : ByteArray) (d : Nat) : ∀ (K n : Nat), 1 ≤ n → i + n ≤ l.length → l.length - (i + n) = d → d < K →
    ∃ K', K ≤ K' + runLen l[i] (l.drop (i + n)) + 1 ∧ spec_PicksText.l1 K l acc (i : Int) (n : Int) = spec_PicksText.j3 K' l acc (i : Int) ((n + runLen l[i] (l.drop (i + n)) : Nat) : Int) := by
  induction d with
  | zero =>
    intro K n hn hin hd hK
    obtain ⟨K, rfl⟩ : ∃ m, K = m + 1 := ⟨K - 1, by omega⟩
    rw [List.drop_eq_nil_of_le (by omega)]
    refine ⟨K, by omega, ?_⟩
    simp only [spec_PicksText.l1]
    rw [wadd i n (by omega), if_neg (by omega)]
    rfl
  | succ d ih =>
    intro K n hn hin hd hK
    obtain ⟨K, rfl⟩ : ∃ m, K = m + 1 := ⟨K - 1, by omega⟩
    have hj : i + n < l.length := by omega
    simp only [spec_PicksText.l1]
    rw [wadd i n (by omega), if_pos (by omega), if_pos (by omega), if_pos (by omega), if_pos (by omega), rd_at l _ hj, rd_at l i hi, List.drop_eq_getElem_cons hj, runLen, wnext n (by omega)]
    by_cases c : l[i + n] = l[i]
    · rw [if_pos c, if_pos c]
      obtain ⟨K', h1, h2⟩ := ih K (n + 1) (by omega) (by omega) (by omega) (by omega)
      rw [show i + (n + 1) = i + n + 1 by omega] at h1 h2
      exact ⟨K', by omega, by rw [h2, show n + 1 + runLen l[i] (l.drop (i + n + 1)) = n + (runLen l[i] (l.drop (i + n + 1)) + 1) by omega]⟩
    · rw [if_neg c, if_neg c]
      exact ⟨K, by omega, rfl⟩
theorem impl_run (l : List Int) (i : Nat) (hi : i < l.length) (hl : l.length ≤ 4000) (acc : List ByteArray) (d : Nat) : ∀ (K n : Nat), 1 ≤ n → i + n ≤ l.length → l.length - (i + n) = d → d < K →
    ∃ K', K ≤ K' + runLen l[i] (l.drop (i + n)) + 1 ∧ impl_PicksText.l1 K l acc (i : Int) (n : Int) = impl_PicksText.j2 K' l acc (i : Int) ((n + runLen l[i] (l.drop (i + n)) : Nat) : Int) := by
  induction d with
  | zero =>
    intro K n hn hin hd hK
    obtain ⟨K, rfl⟩ : ∃ m, K = m + 1 := ⟨K - 1, by omega⟩
    rw [List.drop_eq_nil_of_le (by omega)]
    refine ⟨K, by omega, ?_⟩
    simp only [impl_PicksText.l1]
    rw [wadd i n (by omega), if_neg (by omega)]
    rfl
  | succ d ih =>
    intro K n hn hin hd hK
    obtain ⟨K, rfl⟩ : ∃ m, K = m + 1 := ⟨K - 1, by omega⟩
    have hj : i + n < l.length := by omega
    simp only [impl_PicksText.l1]
    rw [wadd i n (by omega), if_pos (by omega), if_pos (by omega), if_pos (by omega), if_pos (by omega), rd_at l _ hj, rd_at l i hi, List.drop_eq_getElem_cons hj, runLen, wnext n (by omega)]
    by_cases c : l[i + n] = l[i]
    · rw [if_pos c, if_pos c]
      obtain ⟨K', h1, h2⟩ := ih K (n + 1) (by omega) (by omega) (by omega) (by omega)
      rw [show i + (n + 1) = i + n + 1 by omega] at h1 h2
      exact ⟨K', by omega, by rw [h2, show n + 1 + runLen l[i] (l.drop (i + n + 1)) = n + (runLen l[i] (l.drop (i + n + 1)) + 1) by omega]⟩
    · rw [if_neg c, if_neg c]
      exact ⟨K, by omega, rfl⟩
def lastly (i : Nat) (out : List ByteArray) : Prop := (i = 0 → out = []) ∧ (0 < i → out ≠ [])
theorem itoa_small {x : Int} (h0 : -9223372036854775808 ≤ x) (h1 : x ≤ 9223372036854775807) : (itoaS x).size ≤ 21 := itoaS_size (by simp [Lit.wf, IntKind.min, IntKind.max, IntKind.signed, IntKind.bits]; omega)
theorem itoaf_eq {x : Int} (h0 : -9223372036854775808 ≤ x) (h1 : x ≤ 9223372036854775807) : strconv_Itoa_20.f x = some (itoaS x) := by
  unfold strconv_Itoa_20.f
  rw [if_pos ⟨h0, h1⟩]
theorem j3_step (K : Nat) (l : List Int) (acc : ByteArray) (i n : Int) (h : acc.size ≤ 1000000) : spec_PicksText.j3 (K + 1) l acc i n = spec_PicksText.j4 K l (if i > 0 then acc ++ (⟨#[32]⟩ : ByteArray) else acc) i n := by
  simp only [spec_PicksText.j3]
  by_cases c : i > 0
  · rw [if_pos c, if_pos c, if_pos (by omega)]
  · rw [if_neg c, if_neg c]
theorem j4_many (K : Nat) (l : List Int) (B s t : ByteArray) (i : Nat) (n : Int) (hi : i < l.length) (hs : spec_l9Dec.f K l[i] = some s) (ht : spec_l9Dec.f K n = some t) (hn : n > 1) (hB : B.size ≤ 1000000) (h1 : s.size ≤ 100) (h2 : t.size ≤ 100) :
    spec_PicksText.j4 (K + 1) l B (i : Int) n = spec_PicksText.l0 K l (B ++ s ++ (⟨#[42]⟩ : ByteArray) ++ t) (wrap64 ((i : Int) + n)) := by
  simp only [spec_PicksText.j4]
  have e1 : (B ++ s).size = B.size + s.size := bytes_size _ _
  have e2 : (B ++ s ++ (⟨#[42]⟩ : ByteArray)).size = B.size + s.size + 1 := by rw [bytes_size, e1]; rfl
  rw [if_pos (by omega), if_pos (by omega), rd_at l i hi, hs]
  simp only [Option.bind_some]
  rw [if_pos (by omega), if_pos hn, if_pos (by omega), ht]
  simp only [Option.bind_some]
  rw [if_pos (by omega)]
theorem j4_one (K : Nat) (l : List Int) (B s : ByteArray) (i : Nat) (n : Int) (hi : i < l.length) (hs : spec_l9Dec.f K l[i] = some s) (hn : ¬ n > 1) (hB : B.size ≤ 1000000) (h1 : s.size ≤ 100) :
    spec_PicksText.j4 (K + 1) l B (i : Int) n = spec_PicksText.l0 K l (B ++ s) (wrap64 ((i : Int) + n)) := by
  simp only [spec_PicksText.j4]
  rw [if_pos (by omega), if_pos (by omega), rd_at l i hi, hs]
  simp only [Option.bind_some]
  rw [if_pos (by omega), if_neg hn]
theorem j2_many (K : Nat) (l : List Int) (out : List ByteArray) (s t : ByteArray) (i : Nat) (n : Int) (hi : i < l.length) (hz : impl_sized.f l[i] = some true) (hs : strconv_Itoa_20.f l[i] = some s) (ht : strconv_Itoa_20.f n = some t) (hn : n > 1) (ho : out.length ≤ 4000) (h1 : s.size ≤ 100) (h2 : t.size ≤ 100) :
    impl_PicksText.j2 (K + 1) l out (i : Int) n = impl_PicksText.l0 K l (out ++ [s ++ ((⟨#[42]⟩ : ByteArray) ++ t)]) (wrap64 ((i : Int) + n)) := by
  simp only [impl_PicksText.j2]
  have e1 : ((⟨#[42]⟩ : ByteArray) ++ t).size = 1 + t.size := by rw [bytes_size]; rfl
  rw [if_pos (by omega), if_pos (by omega), rd_at l i hi, hz]
  simp only [Option.bind_some]
  rw [if_pos trivial, hs]
  simp only [Option.bind_some]
  rw [if_pos hn, ht]
  simp only [Option.bind_some]
  rw [if_pos (by omega), if_pos (by omega), if_pos (by omega)]
theorem j2_one (K : Nat) (l : List Int) (out : List ByteArray) (s : ByteArray) (i : Nat) (n : Int) (hi : i < l.length) (hz : impl_sized.f l[i] = some true) (hs : strconv_Itoa_20.f l[i] = some s) (hn : ¬ n > 1) (ho : out.length ≤ 4000) :
    impl_PicksText.j2 (K + 1) l out (i : Int) n = impl_PicksText.l0 K l (out ++ [s]) (wrap64 ((i : Int) + n)) := by
  simp only [impl_PicksText.j2]
  rw [if_pos (by omega), if_pos (by omega), rd_at l i hi, hz]
  simp only [Option.bind_some]
  rw [if_pos trivial, hs]
  simp only [Option.bind_some]
  rw [if_neg hn, if_pos (by omega)]
theorem j2_off (K : Nat) (l : List Int) (out : List ByteArray) (i : Nat) (n : Int) (hi : i < l.length) (hz : impl_sized.f l[i] = some false) : impl_PicksText.j2 (K + 1) l out (i : Int) n = some ⟨#[]⟩ := by
  simp only [impl_PicksText.j2]
  rw [if_pos (by omega), if_pos (by omega), rd_at l i hi, hz]
  rfl
theorem sz_eq (x : Int) : impl_sized.f x = some (sizedB x) := by
  unfold impl_sized.f sizedB
  by_cases h : x ≥ -999999999
  · rw [if_pos h, decide_eq_true (show -999999999 ≤ x from h)]
    rfl
  · rw [if_neg h, decide_eq_false (show ¬ -999999999 ≤ x from h)]
    rfl
theorem l0_spec (K : Nat) (l : List Int) (acc : ByteArray) (i : Nat) (hi : i < l.length) : spec_PicksText.l0 (K + 1 + 1) l acc (i : Int) = if sizedB l[i] = true then spec_PicksText.l1 K l acc (i : Int) 1 else some ⟨#[]⟩ := by
  simp only [spec_PicksText.l0, spec_PicksText.j1]
  rw [if_pos (by omega), if_pos (by omega), rd_at l i hi]
  by_cases c1 : l[i] < -999999999
  · rw [if_pos c1, if_pos trivial, if_neg (by simp [sizedB]; omega)]
  · rw [if_neg c1]
    by_cases c2 : l[i] > 999999999
    · rw [decide_eq_true c2, if_pos rfl, if_neg (by simp [sizedB]; omega)]
    · rw [decide_eq_false c2, if_neg (by decide), if_pos (by simp [sizedB]; omega)]
theorem l0_impl (K : Nat) (l : List Int) (out : List ByteArray) (i : Nat) (hi : i < l.length) : impl_PicksText.l0 (K + 1) l out (i : Int) = impl_PicksText.l1 K l out (i : Int) 1 := by
  simp only [impl_PicksText.l0]
  rw [if_pos (by omega)]
theorem l0_end (K K2 : Nat) (l : List Int) (acc : ByteArray) (out : List ByteArray) (i : Nat) (hi : ¬ i < l.length) (hJ : J out = acc) (hs : acc.size ≤ 1000000) (ho : out.length ≤ 4000) : spec_PicksText.l0 (K + 1) l acc (i : Int) = some acc ∧ impl_PicksText.l0 (K2 + 1) l out (i : Int) = some acc := by
  constructor
  · simp only [spec_PicksText.l0]
    rw [if_neg (by omega)]
  · simp only [impl_PicksText.l0]
    rw [if_neg (by omega)]
    have hs2 : (joinL out sp).length = acc.size := by rw [← hJ]; simp [J, ByteArray.size]
    have e : strings_Join.f out (⟨#[32]⟩ : ByteArray) = some (J out) := by
      unfold strings_Join.f
      rw [if_pos (show (joinL out sp).length ≤ 140737488355328 ∧ out.length ≤ 140737488355328 from ⟨by omega, by omega⟩)]
      rfl
    rw [e, hJ]
    rfl
theorem blank (out : List ByteArray) (acc : ByteArray) (i : Nat) (hJ : J out = acc) (hla : lastly i out) (s : ByteArray) : J (out ++ [s]) = (if (i : Int) > 0 then acc ++ (⟨#[32]⟩ : ByteArray) else acc) ++ s := by
  by_cases h0 : 0 < i
  · rw [if_pos (by omega), J_snoc out s (hla.2 h0), hJ]
  · have e0 := hla.1 (by omega)
    subst e0
    rw [if_neg (by omega), ← hJ, List.nil_append, J_one, J_nil]
    apply ba_ext
    simp [ByteArray.data_append]
theorem blank_size (acc : ByteArray) (i : Int) : (if i > 0 then acc ++ (⟨#[32]⟩ : ByteArray) else acc).size ≤ acc.size + 1 := by
  by_cases h0 : i > 0
  · rw [if_pos h0, bytes_size]
    exact Nat.le_refl _
  · rw [if_neg h0]
    exact Nat.le_succ _
theorem fuel4 {L i K K4 q n : Nat} (hi : i < L) (hK : 6 * (L - i) + 30 < K + 1 + 1) (b1 : K ≤ K4 + 1 + 1 + q + 1) (hr : q ≤ L - (i + 1)) (hn : 1 + q = n) : 20 < K4 ∧ 6 * (L - (i + n)) + 30 < K4 ∧ i + n ≤ L ∧ 1 ≤ n := by omega
theorem fuel3 {L i K K3 q n : Nat} (hi : i < L) (hK : 6 * (L - i) + 30 < K + 1) (b1 : K ≤ K3 + 1 + q + 1) (hr : q ≤ L - (i + 1)) (hn : 1 + q = n) : 6 * (L - (i + n)) + 30 < K3 := by omega
theorem fuel2 {L i d n : Nat} (hd : L - i ≤ d + 1) (hn : 1 ≤ n) (hi : i < L) : L - (i + n) ≤ d := by omega
theorem picks_go (l : List Int) (hl : l.length ≤ 4000) (hw : ∀ x ∈ l, -9223372036854775808 ≤ x ∧ x ≤ 9223372036854775807) (d : Nat) : ∀ (i K K2 : Nat) (out : List ByteArray) (acc : ByteArray), i ≤ l.length → l.length - i ≤ d → 6 * (l.length - i) + 30 < K → 6 * (l.length - i) + 30 < K2 → lastly i out → J out = acc → acc.size ≤ 44 * i → out.length ≤ i →
    ∃ r, spec_PicksText.l0 K l acc (i : Int) = some r ∧ impl_PicksText.l0 K2 l out (i : Int) = some r := by
  induction d with
  | zero =>
    intro i K K2 out acc hi hd hK hK2 hla hJ hs ho
    obtain ⟨K, rfl⟩ : ∃ m, K = m + 1 := ⟨K - 1, by omega⟩
    obtain ⟨K2, rfl⟩ : ∃ m, K2 = m + 1 := ⟨K2 - 1, by omega⟩
    exact ⟨acc, l0_end K K2 l acc out i (by omega) hJ (by omega) (by omega)⟩
  | succ d ih =>
    intro i K K2 out acc hi hd hK hK2 hla hJ hs ho
    by_cases hil : i < l.length
    · obtain ⟨K, rfl⟩ : ∃ m, K = m + 1 + 1 := ⟨K - 2, by omega⟩
      obtain ⟨K2, rfl⟩ : ∃ m, K2 = m + 1 := ⟨K2 - 1, by omega⟩
      have hwx := hw _ (List.getElem_mem hil)
      obtain ⟨K3, a1, a2⟩ := impl_run l i hil hl out (l.length - (i + 1)) K2 1 (by omega) (by omega) rfl (by omega)
      obtain ⟨K4, b1, b2⟩ := spec_run l i hil hl acc (l.length - (i + 1)) K 1 (by omega) (by omega) rfl (by omega)
      have hr := runLen_le l[i] (l.drop (i + 1))
      rw [List.length_drop] at hr
      have z1 : ((1 : Nat) : Int) = 1 := rfl
      rw [z1] at a2 b2
      generalize runLen l[i] (l.drop (i + 1)) = q at a1 a2 b1 b2 hr
      obtain ⟨n, hn⟩ : ∃ n, 1 + q = n := ⟨_, rfl⟩
      rw [hn] at a2 b2
      obtain ⟨K3, rfl⟩ : ∃ m, K3 = m + 1 := ⟨K3 - 1, by omega⟩
      obtain ⟨K4, rfl⟩ : ∃ m, K4 = m + 1 + 1 := ⟨K4 - 2, by omega⟩
      obtain ⟨f1, f2, f3, hn0⟩ := fuel4 hil hK b1 hr hn
      have f4 := fuel3 hil hK2 a1 hr hn
      have f5 := fuel2 hd hn0 hil
      have h44 : acc.size ≤ 176000 := Nat.le_trans hs (by clear hK hK2 a1 b1 hr hn f1 f2 f4 f5 hd; omega)
      have ho4 : out.length ≤ 4000 := Nat.le_trans ho (by clear hK hK2 a1 b1 hr hn f1 f2 f4 f5 hd; omega)
      have hn4 : n ≤ 4000 := Nat.le_trans (Nat.le_add_left n i) (Nat.le_trans f3 hl)
      clear hK hK2 a1 b1 hr hn hd
      rw [l0_spec K l acc i hil, l0_impl K2 l out i hil, a2, b2]
      have hz := sz_eq l[i]
      cases hc : sizedB l[i] with
      | false =>
        rw [hc] at hz
        rw [j2_off K3 l out i n hil hz, if_neg (by decide)]
        exact ⟨_, rfl, rfl⟩
      | true =>
        rw [hc] at hz
        rw [if_pos rfl, j3_step (K4 + 1) l acc i n (Nat.le_trans h44 (by decide))]
        have t1 := itoa_small hwx.1 hwx.2
        have nw : wrap64 ((i : Int) + (n : Int)) = ((i + n : Nat) : Int) := wadd i n (Nat.le_trans f3 hl)
        have nn : ∀ s, lastly (i + n) (out ++ [s]) := fun s => ⟨fun h => absurd h (Nat.ne_of_gt (Nat.add_pos_right i hn0)), fun _ => by simp⟩
        have hb := blank_size acc (i : Int)
        have hj := blank out acc i hJ hla
        generalize (if (i : Int) > 0 then acc ++ (⟨#[32]⟩ : ByteArray) else acc) = B at hb hj
        have d1 := dec_eq l[i] hwx K4 f1
        have i1 := itoaf_eq hwx.1 hwx.2
        have hB : B.size ≤ 1000000 := Nat.le_trans hb (Nat.le_trans (Nat.succ_le_succ h44) (by decide))
        have on : ∀ s : ByteArray, (out ++ [s]).length ≤ i + n := fun s => by
          rw [List.length_append, List.length_singleton]
          exact Nat.add_le_add ho hn0
        have s44 : ∀ m, m ≤ 43 → acc.size + 1 + m ≤ 44 * (i + n) := fun m hm => by
          have : 44 * (i + n) = 44 * i + 44 * n := Nat.mul_add 44 i n
          clear hw ih hla hb d1 i1 on nn nw f1 f2 f3 f4 f5 hj a2 b2 hz hwx t1
          omega
        have nr : -9223372036854775808 ≤ (n : Int) ∧ (n : Int) ≤ 9223372036854775807 := by
          clear hw ih hla hb d1 i1 on nn nw f1 f2 f3 f4 f5 hj a2 b2 hz hwx t1 s44
          omega
        by_cases hn1 : (n : Int) > 1
        · have nb := itoa_small nr.1 nr.2
          have d2 := dec_eq (n : Int) nr K4 f1
          have i2 := itoaf_eq nr.1 nr.2
          generalize itoaS (n : Int) = t at nb d2 i2
          generalize itoaS l[i] = s at t1 d1 i1
          rw [j4_many K4 l B s t i n hil d1 d2 hn1 hB (Nat.le_trans t1 (by decide)) (Nat.le_trans nb (by decide)), j2_many K3 l out s t i n hil hz i1 i2 hn1 ho4 (Nat.le_trans t1 (by decide)) (Nat.le_trans nb (by decide)), nw]
          have e : J (out ++ [s ++ ((⟨#[42]⟩ : ByteArray) ++ t)]) = B ++ s ++ (⟨#[42]⟩ : ByteArray) ++ t := by rw [hj, ba_assoc, ba_assoc]
          have es : (B ++ s ++ (⟨#[42]⟩ : ByteArray) ++ t).size = B.size + s.size + 1 + t.size := by rw [bytes_size, bytes_size, bytes_size]; rfl
          have ee : (B ++ s ++ (⟨#[42]⟩ : ByteArray) ++ t).size ≤ 44 * (i + n) := by
            rw [es]
            refine Nat.le_trans ?_ (s44 (s.size + 1 + t.size) (by clear hw ih hla hb d1 i1 on nn nw f1 f2 f3 f4 f5 hj a2 b2 hz hwx s44 e es; omega))
            clear hw ih hla d1 i1 on nn nw f1 f2 f3 f4 f5 hj a2 b2 hz hwx s44 e es
            omega
          exact ih (i + n) K4 K3 _ _ f3 f5 f2 f4 (nn _) e ee (on _)
        · generalize itoaS l[i] = s at t1 d1 i1
          rw [j4_one K4 l B s i n hil d1 hn1 hB (Nat.le_trans t1 (by decide)), j2_one K3 l out s i n hil hz i1 hn1 ho4, nw]
          have es : (B ++ s).size = B.size + s.size := bytes_size _ _
          have ee : (B ++ s).size ≤ 44 * (i + n) := by
            rw [es]
            refine Nat.le_trans ?_ (s44 s.size (Nat.le_trans t1 (by decide)))
            exact Nat.add_le_add_right hb _
          exact ih (i + n) K4 K3 _ _ f3 f5 f2 f4 (nn _) (hj s) ee (on _)
    · obtain ⟨K, rfl⟩ : ∃ m, K = m + 1 := ⟨K - 1, by omega⟩
      obtain ⟨K2, rfl⟩ : ∃ m, K2 = m + 1 := ⟨K2 - 1, by omega⟩
      exact ⟨acc, l0_end K K2 l acc out i hil hJ (by omega) (by omega)⟩
theorem picks_both (l : List Int) (hw : ∀ x ∈ l, (Lit.int .i64 x).wf = true) (K : Nat) (hK : 30000 < K) : ∃ r, spec_PicksText.f K l = some r ∧ impl_PicksText.f K l = some r := by
  unfold spec_PicksText.f impl_PicksText.f
  by_cases h : (l.length : Int) > 4000
  · rw [if_pos h, if_pos h]
    exact ⟨_, rfl, rfl⟩
  · rw [if_neg h, if_neg h]
    exact picks_go l (by omega) (fun x hx => b64 (hw x hx)) l.length 0 K K [] ⟨#[]⟩ (by omega) (by omega) (by omega) (by omega) ⟨fun _ => rfl, fun h => by omega⟩ J_nil (by decide) (by simp)
theorem FnExactPicksText (l0 : List Int) (h0 : l0.length ≤ maxLen ∧ ∀ x ∈ l0, (Lit.int .i64 x).wf = true) : ∃ k, laws_FnExactPicksText.f k l0 = some true := by
  obtain ⟨K, hK⟩ : ∃ K, 2000000 < K := ⟨2000001, by omega⟩
  refine ⟨K, ?_⟩
  unfold laws_FnExactPicksText.f
  by_cases c : (l0.length : Int) > 1048576
  · exact st c rfl
  have hl : l0.length ≤ 1048576 := by omega
  obtain ⟨r, rs, ri⟩ := picks_both l0 h0.2 K (by omega)
  have e1 := laws_toIntS_eq l0 hl K (by omega)
  exact sf c (sb e1 (sb rs (sb e1 (sb ri (st rfl (sb e1 (sb (laws_eqIntS_self l0 hl K (by omega)) (st rfl rfl))))))))

end Go.Proofs.YtnkcoooifjjmbaaDoor.Pure
