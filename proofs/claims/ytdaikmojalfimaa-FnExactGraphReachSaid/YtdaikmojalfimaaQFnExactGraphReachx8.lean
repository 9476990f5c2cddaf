-- Written by a program of this session that drives the print of the kit, with contracts of its own beside the printed ones. Lean checks it.
import Derived.Test.YtdaikmojalfimaaQFnExactGraphReachx0
import Derived.Test.YtdaikmojalfimaaQFnExactGraphReachx7
namespace Go.Proofs.Ytdaikmojalfimaa.QFnExactGraphReach
open Go.RowKit Go.Proofs.YtdaikmojalfimaaW.PrintWords Go.Proofs.YtdaikmojalfimaaW.PrintLast Go.Proofs.YtdaikmojalfimaaW.PrintMore
attribute [local go_sem] max2_int min2_int max_two min_two max_three min_three max_four min_four   -- for this text's walks alone
set_option linter.unusedVariables false
set_option linter.unusedSimpArgs false

/-! ### impl_Graph_met: function 45 -/
structure MetInv (w0 W : World) (b1 b2 : Nat) (vs vo : Value) (seen : List Bool) (out : List Int) : Prop where
  below : Below w0.heap.size w0 W
  g1 : w0.heap.size ≤ b1
  g2 : w0.heap.size ≤ b2
  k1 : W.heap[b1]? = some (.cells #[vs] 39 (0, 0))
  k2 : W.heap[b2]? = some (.cells #[vo] 24 (0, 0))
  rs : Kd.R Kd.bool 4 W w0.heap.size (fun _ => True) vs seen
  ro : Kd.R (Kd.int .i64) 3 W w0.heap.size (fun _ => True) vo out
def meetStep (s : List Bool × List Int) (n : Int) : List Bool × List Int := if 0 ≤ n ∧ rdOf false s.1 n = false then (s.1.set n.toNat true, s.2 ++ [n]) else s
theorem meet_len (l : List Int) : ∀ s : List Bool × List Int, (l.foldl meetStep s).1.length = s.1.length ∧ (l.foldl meetStep s).2.length ≤ s.2.length + l.length := by
  induction l with
  | nil => intro s; exact ⟨rfl, Nat.le_refl _⟩
  | cons n r ih =>
    intro s
    have h := ih (meetStep s n)
    have h2 : (meetStep s n).1.length = s.1.length ∧ (meetStep s n).2.length ≤ s.2.length + 1 := by
      unfold meetStep
      split
      · simp
      · exact ⟨rfl, Nat.le_succ _⟩
    exact ⟨h.1.trans h2.1, by simp only [List.foldl_cons, List.length_cons]; omega⟩
theorem fold_snoc (l : List Int) (i : Nat) (h : i < l.length) (s : List Bool × List Int) : (l.take (i + 1)).foldl meetStep s = meetStep ((l.take i).foldl meetStep s) l[i] := by
  have e : l.take (i + 1) = l.take i ++ [l[i]] := by
    rw [List.take_add_one, List.getElem?_eq_getElem h]
    rfl
  rw [e, List.foldl_append]
  rfl
set_option maxHeartbeats 8000000 in
set_option maxRecDepth 100000 in
theorem meet_calls (A : Option Addr) (c : Nat) (l : List Int) (w0 W : World) (b1 b2 : Nat) (seen : List Bool) (out : List Int) (hl : Kd.C (Kd.int .i64) w0 A l.length l) (hn : ∀ n ∈ l, n < (seen.length : Int)) (hsz : out.length + l.length ≤ 1099511627776) (inv : ∃ vs vo, MetInv w0 W b1 b2 vs vo seen out) :
    Calls Try.prog 57 #[.slice A l.length c, .pointer (some ⟨b1, 0, none⟩), .pointer (some ⟨b2, 0, none⟩)] W fun e w' => e = .returned (.tuple #[]) ∧ ∃ vs vo, MetInv w0 w' b1 b2 vs vo (l.foldl meetStep (seen, out)).1 (l.foldl meetStep (seen, out)).2 := by
  have HL := Aside0.mk hl
  have HN := Aside0.mk hn
  have HI := Aside0.mk inv
  have HZ := Aside0.mk hsz
  clear hl hn inv hsz
  go_enter Try.func57, Try.ntmps57
  go_wp2
  go_loopg [8] l.length (fun gg v8 wr => ∃ i : Nat, i ≤ l.length ∧ l.length - i ≤ gg ∧ v8 = .int .i64 (i : Int) ∧ Aside0 (∃ vs vo, MetInv w0 wr b1 b2 vs vo ((l.take i).foldl meetStep (seen, out)).1 ((l.take i).foldl meetStep (seen, out)).2))
  case atStart => exact ⟨0, Nat.zero_le _, by omega, rfl, HI⟩
  case round =>
    obtain ⟨i, hi, hgg, rfl, HR⟩ := hrel
    by_cases hlt : i < l.length
    · have hltz : (i : Int) < (l.length : Int) := by omega
      have hsm : l.length ≤ 1099511627776 := by have := HZ.out; omega
      have hrd := Kd.reads_of_C (d := (0 : Int)) HL.out
      obtain ⟨a, rfl, _⟩ := hrd.at_ ((0 : Nat) : Int) (by omega) (by omega)
      have hcell : ∀ j, j < l.length → w0.cell? (a.add j) = some (.int .i64 (l.getD j 0)) := by
        intro j hj
        obtain ⟨ad, e, hx⟩ := hrd.at_ (j : Int) (by omega) (by omega)
        cases e
        simpa [rdOf] using hx
      obtain ⟨b, off, rfl, hc⟩ := ints_at hcell (by omega)
      obtain ⟨vs, vo, inv⟩ := HR.out
      have hx0 := hc i hlt
      have hx1 : wr.cell? ⟨b, off + i, none⟩ = some (.int .i64 l[i]) := by
        rw [inv.below.cell (World.block_lt_of_cell? w0 _ hx0), hx0]
        simp [List.getD, hlt]
      have hfold := fold_snoc l i hlt (seen, out)
      have hlen := meet_len (l.take i) (seen, out)
      have hin := HN.out _ (List.getElem_mem hlt)
      have hz := HZ.out
      have htl : (l.take i).length = i := by rw [List.length_take]; omega
      generalize l[i] = x at hx1 hfold hin
      generalize (l.take i).foldl meetStep (seen, out) = s at inv hfold hlen
      obtain ⟨sn, ot⟩ := s
      simp only at inv hlen
      have FS := Aside0.mk hfold
      clear hfold hrd hcell hc hx0 HR
      by_cases h0 : 0 ≤ x
      · have g0 : decide (0 ≤ x) = true := decide_eq_true h0
        have hxs : x < (sn.length : Int) := by omega
        obtain ⟨gs, cs, es, gbs, gls, cls, HGs⟩ := Kd.R_form inv.rs (by omega)
        subst es
        obtain ⟨hse, hsf⟩ := Kd.R_celln false inv.rs x h0 hxs
        have e1 : wr.cell? ⟨b1, 0, none⟩ = some (.slice (some ⟨gs, 0, none⟩) sn.length cs) := (blk_cell inv.k1 0).trans rfl
        cases hb : rdOf false sn x with
        | true =>
          have hst : meetStep (sn, ot) x = (sn, ot) := by
            unfold meetStep
            rw [if_neg (fun h => by rw [hb] at h; exact Bool.noConfusion h.2)]
          have FS := Aside0.mk (FS.out.trans hst)
          have INV := Aside0.mk inv
          rw [hb] at hse
          clear hst inv HGs hlen hz htl hin hi
          have p0 := eq_true h0
          have p1 := eq_true hxs
          go_wp2
          go_roundg (l.length - (i + 1))
          case measure => omega
          case rel => exact ⟨i + 1, by omega, by omega, (by first | exact congrArg (Value.int .i64) (by unfold wrap64; omega) | exact congrArg (Value.int .i64) (by omega)), ⟨by rw [FS.out]; exact ⟨_, _, INV.out⟩⟩⟩
        | false =>
          have hst : meetStep (sn, ot) x = (sn.set x.toNat true, ot ++ [x]) := by
            unfold meetStep
            rw [if_pos ⟨h0, hb⟩]
          have FS := Aside0.mk (FS.out.trans hst)
          rw [hb] at hse
          have LO := Aside0.mk (show (ot.length + 1) * 8 ≤ 140737488355328 by omega)
          have HS := Aside0.mk inv.rs
          have HO := Aside0.mk inv.ro
          have K1 := Aside0.mk inv.k1
          have K2 := Aside0.mk inv.k2
          have HB := Aside0.mk inv.below
          have G1 := Aside0.mk inv.g1
          have G2 := Aside0.mk inv.g2
          have GBS := Aside0.mk gbs
          have HP := Kd.R_putg inv.rs x true
          obtain ⟨Ao, co, eo⟩ := Kd.R_slice inv.ro
          subst eo
          clear hst inv HGs hlen hz htl hin hi gbs gls cls
          have p0 := eq_true h0
          have p1 := eq_true hxs
          go_wp2_with (first
            | ((with_reducible refine gate_store (t := 4) (p := 23) rfl ?_); refine store_event (t := 4) (p := 23) (v := ?vo_w26) (w1 := (wr.setCell ⟨gs, (x : Int).toNat, none⟩ (.bool true))) ?hg ?ho ?hn ?hr ?_; (case ho => rfl); (case hg => rfl); (case hn => rfl); (case hr => first | (go_simp; done) | (go_simp; rfl)); intro w26 hw; have hg : wr.grownBy w26 (some gs) := (by rw [hw]; exact HP.2); have n0_ := Aside0.mk (show Kd.R Kd.bool 4 w26 w0.heap.size (fun _ => True) (.slice (some ⟨gs, 0, none⟩) sn.length cs) (sn.set (x : Int).toNat true) from (by rw [hw]; exact HP.1)); have n1_ := Aside0.mk (Kd.R_over' HO.out (Kd.R_typed HS.out) (by decide) hg); have n2_ := Aside0.mk (blk_grown K1.out hg (Kd.R_ne HS.out K1.out (by decide))); have n3_ := Aside0.mk (blk_grown K2.out hg (Kd.R_ne HS.out K2.out (by decide))); have n4_ := Aside0.mk ((by rw [hw]; exact below_set (HB.out) GBS.out : Below w0.heap.size w0 w26)); clear HP HS HO K1 K2 HB; have HS := n0_; have HO := n1_; have K1 := n2_; have K2 := n3_; have HB := n4_; clear n0_ n1_ n2_ n3_ n4_ hg hw; have e2 : w26.cell? ⟨b2, 0, none⟩ = some (.slice Ao ot.length co) := (blk_cell K2.out 0).trans rfl)
            | ((with_reducible refine gate_builtin (b := .append) (xs := #[.tmp 24, .tmp 26]) rfl ?_); at_builtin; refine Kd.R_append (Kd.int .i64) (w0 := w0) w0.heap.size rfl (.tmp 24) (.tmp 26) 24 3 (.int .i64 0) 8 rfl Try.underlying24 info3 rfl (by decide) (by omega) (.slice Ao ot.length co) ot x [.int .i64 x] (fun _ => True) (fun _ => False) rfl rfl rfl (fun _ hk => hk.elim) (fun _ _ => trivial) HO.out HB.out HB.out.size LO.out ?_; intro v27 w27 ho hb hg hat; have n0_ := Aside0.mk (Kd.R_over' HS.out (Kd.R_typed HO.out) (by decide) hg); have n1_ := Aside0.mk (blk_grown K1.out hg (Kd.R_ne HO.out K1.out (by decide))); have n2_ := Aside0.mk (blk_grown K2.out hg (Kd.R_ne HO.out K2.out (by decide))); clear HS HO K1 K2 HB; have HS := n0_; have K1 := n1_; have K2 := n2_; have HO := Aside0.mk ho; have HB := Aside0.mk hb; clear n0_ n1_ n2_ hg hb ho hat; have e3 : w27.cell? ⟨b2, 0, none⟩ = some (.slice Ao ot.length co) := (blk_cell K2.out 0).trans rfl; have e4 := blk_frozen K2.out 0; obtain ⟨A27, c27, ev27⟩ := Kd.R_slice HO.out; subst ev27)
            | ((with_reducible refine gate_store (t := 24) (p := 2) rfl ?_); refine store_event (t := 24) (p := 2) (v := ?vo_w28) (w1 := (w27.setCell ⟨b2, 0, none⟩ (.slice A27 (ot ++ [x]).length c27))) ?hg ?ho ?hn ?hr ?_; (case ho => rfl); (case hg => rfl); (case hn => rfl); (case hr => first | (go_simp; done) | (go_simp; rfl)); intro w28 hw; have n0_ := Aside0.mk (show MetInv w0 w28 b1 b2 (.slice (some ⟨gs, 0, none⟩) sn.length cs) (.slice A27 (ot ++ [x]).length c27) (sn.set (x : Int).toNat true) (ot ++ [x]) from (by rw [hw]; exact ⟨below_set HB.out G2.out, G1.out, G2.out, blk_far K1.out (blk_ne K1.out K2.out (by decide)) _, blk_put K2.out 0 _ rfl, Kd.R_mono (Kd.R_far (p := ⟨b2, 0, none⟩) (Kd.R_types HS.out K2.out (by decide)) (fun _ hk => hk.2) _) (fun _ _ => trivial), Kd.R_mono (Kd.R_far (p := ⟨b2, 0, none⟩) (Kd.R_types HO.out K2.out (by decide)) (fun _ hk => hk.2) _) (fun _ _ => trivial)⟩)); clear HS HO K1 K2 HB hw; have INV := n0_; clear n0_))
          go_roundg (l.length - (i + 1))
          case measure => omega
          case rel => exact ⟨i + 1, by omega, by omega, (by first | exact congrArg (Value.int .i64) (by unfold wrap64; omega) | exact congrArg (Value.int .i64) (by omega)), ⟨by rw [FS.out]; exact ⟨_, _, INV.out⟩⟩⟩
      · have g0 : decide (0 ≤ x) = false := decide_eq_false h0
        have hst : meetStep (sn, ot) x = (sn, ot) := by
          unfold meetStep
          rw [if_neg (fun h => h0 h.1)]
        have FS := Aside0.mk (FS.out.trans hst)
        have INV := Aside0.mk inv
        clear hst inv hlen hz htl hin hi h0
        go_wp2
        go_roundg (l.length - (i + 1))
        case measure => omega
        case rel => exact ⟨i + 1, by omega, by omega, (by first | exact congrArg (Value.int .i64) (by unfold wrap64; omega) | exact congrArg (Value.int .i64) (by omega)), ⟨by rw [FS.out]; exact ⟨_, _, INV.out⟩⟩⟩
    · have hltz : ¬ (i : Int) < (l.length : Int) := by omega
      have HR' := Aside0.mk (show ∃ vs vo, MetInv w0 wr b1 b2 vs vo (l.foldl meetStep (seen, out)).1 (l.foldl meetStep (seen, out)).2 from (by have := HR.out; rwa [List.take_of_length_le (by omega)] at this))
      clear HR
      go_wp2
      go_end0
      exact ⟨rfl, HR'.out⟩

theorem met_drew {w0 W : World} {b1 b2 : Nat} {vs vo : Value} {seen : List Bool} {out : List Int} (h : MetInv w0 W b1 b2 vs vo seen out) : MetInv w0 W.drew b1 b2 vs vo seen out := ⟨below_drew1 h.below, h.g1, h.g2, h.k1, h.k2, Kd.R_drew h.rs, Kd.R_drew h.ro⟩
def metRoots (l1 : List (List Int)) (s : List Bool × List Int) : List Bool × List Int := l1.foldl (fun s r => r.foldl meetStep s) s
def metLoop (l0 : List S50) : Nat → Int → List Bool × List Int → Option (List Int)
  | 0, _, _ => none
  | k + 1, i, s => if i < (s.2.length : Int) then (if 0 ≤ rd s.2 i ∧ rd s.2 i < (l0.length : Int) ∧ s.2.length ≤ 1000 then metLoop l0 k (wrap64 (i + 1)) ((rd_T50 l0 (rd s.2 i)).f0.foldl meetStep s) else none) else some s.2
def metOk (l0 : List S50) (l1 : List (List Int)) (l2 : List Int) : Bool :=
  decide (l0.length ≤ 200) && (decide (l1.length ≤ 3) && (l1.all (fun r => decide (r.length ≤ 8) && r.all (fun n => decide (n < (l0.length : Int)))) && ((decide (l2.length ≤ 8) && l2.all (fun n => decide (n < (l0.length : Int)))) && l0.all (fun x => decide (x.f0.length ≤ 4) && x.f0.all (fun n => decide (n < (l0.length : Int)))))))
def impl_Graph_met.f (k : Nat) (l0 : List S50) (l1 : List (List Int)) (l2 : List Int) : Option (List Int) := if metOk l0 l1 l2 = true then metLoop l0 k 0 (l2.foldl meetStep (metRoots l1 (List.replicate l0.length false, []))) else none
theorem metLoop_mono (l0 : List S50) : ∀ k i s, LeO (metLoop l0 k i s) (metLoop l0 (k + 1) i s)
  | 0, _, _ => fun r h => by simp [metLoop] at h
  | k + 1, i, s => by
    unfold metLoop
    refine LeO.ite ?_ (LeO.refl _)
    refine LeO.ite ?_ (LeO.refl _)
    exact metLoop_mono l0 k _ _
theorem impl_Graph_met.mono : ∀ a0 a1 a2 k, LeO (impl_Graph_met.f k a0 a1 a2) (impl_Graph_met.f (k + 1) a0 a1 a2) := by
  intro a0 a1 a2 k
  unfold impl_Graph_met.f
  refine LeO.ite ?_ (LeO.refl _)
  exact metLoop_mono a0 k _ _
structure MetFine (l0 : List S50) (l1 : List (List Int)) (l2 : List Int) : Prop where
  n0 : l0.length ≤ 200
  r0 : l1.length ≤ 3
  r1 : ∀ r ∈ l1, r.length ≤ 8 ∧ ∀ n ∈ r, n < (l0.length : Int)
  p0 : l2.length ≤ 8
  p1 : ∀ n ∈ l2, n < (l0.length : Int)
  e1 : ∀ x ∈ l0, x.f0.length ≤ 4 ∧ ∀ n ∈ x.f0, n < (l0.length : Int)
theorem met_fine {l0 : List S50} {l1 : List (List Int)} {l2 : List Int} (h : metOk l0 l1 l2 = true) : MetFine l0 l1 l2 := by
  simp only [metOk, Bool.and_eq_true, decide_eq_true_eq, List.all_eq_true] at h
  obtain ⟨h0, h1, h2, ⟨h3, h4⟩, h5⟩ := h
  exact ⟨h0, h1, fun r hr => h2 r hr, h3, h4, fun x hx => h5 x hx⟩
theorem roots_len (l1 : List (List Int)) (hr : ∀ r ∈ l1, r.length ≤ 8) : ∀ s : List Bool × List Int, (metRoots l1 s).1.length = s.1.length ∧ (metRoots l1 s).2.length ≤ s.2.length + 8 * l1.length := by
  induction l1 with
  | nil => intro s; exact ⟨rfl, Nat.le_refl _⟩
  | cons r t ih =>
    intro s
    have h := ih (fun q hq => hr q (List.mem_cons_of_mem _ hq)) (r.foldl meetStep s)
    have h2 := meet_len r s
    have h3 := hr r List.mem_cons_self
    have e : metRoots (r :: t) s = metRoots t (r.foldl meetStep s) := rfl
    rw [e]
    exact ⟨h.1.trans h2.1, by simp only [List.length_cons]; omega⟩
theorem roots_snoc (l1 : List (List Int)) (i : Nat) (h : i < l1.length) (s : List Bool × List Int) : metRoots (l1.take (i + 1)) s = (l1[i]).foldl meetStep (metRoots (l1.take i) s) := by
  have e : l1.take (i + 1) = l1.take i ++ [l1[i]] := by
    rw [List.take_add_one, List.getElem?_eq_getElem h]
    rfl
  rw [e, metRoots, List.foldl_append]
  rfl

set_option maxHeartbeats 8000000 in
set_option maxRecDepth 100000 in
theorem impl_Graph_met.calls (k : Nat) (A0_0 : Option Addr) (c0_0 : Nat) (l0_0 : List (S50)) (A0_1 : Option Addr) (c0_1 : Nat) (l0_1 : List (List Int)) (A0_2 : Option Addr) (c0_2 : Nat) (l0_2 : List Int) (r : List Int) (w : World) (hr0_0 : Kd.C k50 w A0_0 l0_0.length l0_0) (hc0_0 : l0_0.length ≤ c0_0) (hr0_1 : Kd.C (Kd.slice 3 (Kd.int .i64)) w A0_1 l0_1.length l0_1) (hc0_1 : l0_1.length ≤ c0_1) (hr0_2 : Kd.C (Kd.int .i64) w A0_2 l0_2.length l0_2) (hc0_2 : l0_2.length ≤ c0_2) (h : impl_Graph_met.f k l0_0 l0_1 l0_2 = some r) :
    Calls Try.prog 45 #[.agg #[.slice A0_0 l0_0.length c0_0, .slice A0_1 l0_1.length c0_1, .slice A0_2 l0_2.length c0_2]] w fun e w' => ∃ v0_ : Value, e = .returned (v0_) ∧ Kd.R (Kd.int .i64) 3 w' w.heap.size (fun _ => True) v0_ r ∧ Below w.heap.size w w' := by
  unfold impl_Graph_met.f at h
  have hok : metOk l0_0 l0_1 l0_2 = true := by
    by_cases g : metOk l0_0 l0_1 l0_2 = true
    · exact g
    · rw [if_neg g] at h
      cases h
  rw [if_pos hok] at h
  have fine := met_fine hok
  obtain ⟨w1, hw1⟩ : ∃ w1, w1 = w.alloc (.cells #[.slice A0_0 l0_0.length c0_0, .slice A0_1 l0_1.length c0_1, .slice A0_2 l0_2.length c0_2] 26) := ⟨_, rfl⟩
  have hs1 : w1.heap.size = w.heap.size + 1 := by rw [hw1]; simp
  have hbx : w1.heap[w.heap.size]? = some (.cells #[.slice A0_0 l0_0.length c0_0, .slice A0_1 l0_1.length c0_1, .slice A0_2 l0_2.length c0_2] 26 (0, 0)) := by rw [hw1]; exact blk_new w _
  have hb1 : Below w.heap.size w w1 := by rw [hw1]; exact below_alloc (Below.refl _ _) _
  have HC0 := Aside0.mk (Kd.C_below hr0_0 hb1)
  have HC1 := Aside0.mk (Kd.C_below hr0_1 hb1)
  have HC2 := Aside0.mk (Kd.C_below hr0_2 hb1)
  have FN := Aside0.mk fine
  have HX := Aside0.mk hbx
  have HB1 := Aside0.mk hb1
  have HS1 := Aside0.mk hs1
  have H := Aside0.mk h
  have n0 := fine.n0
  have hN : decide (0 ≤ (l0_0.length : Int)) = true := decide_eq_true (by omega)
  have hMk : decide ((l0_0.length : Int).toNat ≤ 281474976710656) = true := decide_eq_true (by omega)
  have hP := Aside0.mk (show (l0_0.length : Int).toNat * 1 ≤ 281474976710656 by omega)
  clear hr0_0 hr0_1 hr0_2 hc0_0 hc0_1 hc0_2 h hok fine hbx hb1 n0
  go_enter Try.func45, Try.ntmps45
  go_wp2_with (first
    | ((with_reducible refine gate_dst (N := 12) rfl ?_); rw [← hw1]; refine Kd.R_make Kd.bool (w0 := w1) w1.heap.size 4 rfl (N := 12) rfl 39 _ _ rfl (l0_0.length : Int) rfl rfl Try.underlying39 (.bool false) 1 info4 rfl (by decide) (by omega) false (ok := fun _ => True) (okp := fun _ => True) rfl (fun _ hk => hk) trivial (of_decide_eq_true hN) hP.out (below_alloc (Below.refl _ _) _) (by simp) ?_; intro v221 w11 ho hb hg hnew; have HO := Aside0.mk ho; have HB := Aside0.mk hb; have HG := Aside0.mk hg; clear ho hb hg hnew; obtain ⟨As, cs, es⟩ := Kd.R_slice HO.out; subst es; have hq1 : ∀ o, (w11.alloc o).cell? ⟨w.heap.size, 1, none⟩ = some (.slice A0_1 l0_1.length c0_1) := fun o => Lib.cell?_alloc_some o ((HB.out.cell (p := ⟨w.heap.size, 1, none⟩) (by have := HS1.out; show w.heap.size < _; omega)).trans ((blk_cell HX.out 1).trans rfl))))
  go_loopg [17] l0_1.length (fun gg v17 wr => ∃ i : Nat, i ≤ l0_1.length ∧ l0_1.length - i ≤ gg ∧ v17 = .int .i64 (i : Int) ∧ Aside0 (∃ vs vo, MetInv w1 wr w11.heap.size (w.heap.size + 1) vs vo (metRoots (l0_1.take i) (List.replicate l0_0.length false, [])).1 (metRoots (l0_1.take i) (List.replicate l0_0.length false, [])).2))
  case atStart =>
    have h1 := HS1.out
    have h2 := HB.out.size
    have hO : Kd.R Kd.bool 4 w11 w1.heap.size (fun _ => True) (.slice As l0_0.length cs) (List.replicate l0_0.length false) := by
      have := HO.out
      simpa using this
    refine ⟨0, Nat.zero_le _, by omega, rfl, ⟨_, _, ⟨below_alloc HB.out _, h2, by omega, blk_new w11 _, blk_alloc (blk_grown (o := .cells #[.slice none 0 0] 24 (0, 0)) (by rw [← h1]; exact blk_new w1 _) HG.out (by simp)) _, Kd.R_alloc hO _, Kd.R_nil _ _ _ _ _⟩⟩⟩
  case round =>
    obtain ⟨i, hi, hgg, rfl, HR⟩ := hrel
    by_cases hlt : i < l0_1.length
    · have hltz : (i : Int) < (l0_1.length : Int) := by omega
      obtain ⟨vs, vo, inv⟩ := HR.out
      obtain ⟨ad, Ar, cr, e0, hx, hlr, hir⟩ := at_L1 HC1.out (i : Int) (by omega) (by omega)
      subst e0
      have hx1 : wr.cell? (ad.add i) = some (.slice Ar (rd_L1 l0_1 (i : Int)).length cr) := (inv.below.cell (World.block_lt_of_cell? w1 _ hx)).trans hx
      have er : rd_L1 l0_1 (i : Int) = l0_1[i] := by simp [rd_L1, List.getD, hlt]
      have hsn := roots_snoc l0_1 i hlt (List.replicate l0_0.length false, [])
      have hle := roots_len (l0_1.take i) (fun q hq => (FN.out.r1 q (List.mem_of_mem_take hq)).1) (List.replicate l0_0.length false, [])
      have htl : (l0_1.take i).length = i := by rw [List.length_take]; omega
      have hf := FN.out.r1 _ (List.getElem_mem hlt)
      have hr0 := FN.out.r0
      rw [er] at hx1 hir
      generalize l0_1[i] = row at hx1 hir hsn hf
      generalize metRoots (l0_1.take i) (List.replicate l0_0.length false, []) = s at inv hsn hle
      have hcall := meet_calls Ar cr row w1 wr w11.heap.size (w.heap.size + 1) s.1 s.2 hir (fun n hn => by rw [hle.1, List.length_replicate]; exact hf.2 n hn) (by have h1 := hle.2; have h2 := hf.1; simp only [List.length_nil] at h1; omega) ⟨vs, vo, inv⟩
      have SN := Aside0.mk hsn
      clear hsn hle htl hf hr0 er hir hx hlr inv HR hi
      go_wp2_with (go_at_call 57; refine hcall.mono ?_; rintro e w8 ⟨rfl, hinv⟩; have INV := Aside0.mk hinv; clear hcall hinv)
      go_roundg (l0_1.length - (i + 1))
      case measure => omega
      case rel =>
        have hr0 := FN.out.r0
        exact ⟨i + 1, by omega, by omega, (by first | exact congrArg (Value.int .i64) (by unfold wrap64; omega) | exact congrArg (Value.int .i64) (by omega)), ⟨by rw [SN.out]; exact INV.out⟩⟩
    · have hltz : ¬ (i : Int) < (l0_1.length : Int) := by omega
      have inv := HR.out
      rw [List.take_of_length_le (by omega)] at inv
      have hle := roots_len l0_1 (fun q hq => (FN.out.r1 q hq).1) (List.replicate l0_0.length false, [])
      have hH := H.out
      generalize metRoots l0_1 (List.replicate l0_0.length false, []) = s at inv hle hH
      obtain ⟨vs, vo, inv⟩ := inv
      have hp0 := FN.out.p0
      have hr0 := FN.out.r0
      have hx2 : wr.cell? ⟨w.heap.size, 2, none⟩ = some (.slice A0_2 l0_2.length c0_2) := (inv.below.cell (p := ⟨w.heap.size, 2, none⟩) (by have := HS1.out; show w.heap.size < _; omega)).trans ((blk_cell HX.out 2).trans rfl)
      have hcall := meet_calls A0_2 c0_2 l0_2 w1 wr w11.heap.size (w.heap.size + 1) s.1 s.2 HC2.out (fun n hn => by rw [hle.1, List.length_replicate]; exact FN.out.p1 n hn) (by have h1 := hle.2; simp only [List.length_nil] at h1; omega) ⟨vs, vo, inv⟩
      have ML := meet_len l0_2 s
      rw [hle.1, List.length_replicate] at ML
      have MA := Aside0.mk ML.1
      have HH := Aside0.mk hH
      clear inv hle hH hp0 hr0 ML HR H hi hgg
      go_wp2_with (go_at_call 57; refine hcall.mono ?_; rintro e w8 ⟨rfl, hinv⟩; have INV := Aside0.mk hinv; clear hcall hinv)
      go_loopg [8] k (fun kq v8 w' => ∃ (x8 : Int) (s : List Bool × List Int), v8 = .int .i64 x8 ∧ Aside0 (0 ≤ x8) ∧ Aside0 (metLoop l0_0 kq x8 s = some r) ∧ Aside0 (s.1.length = l0_0.length) ∧ Aside0 (∃ vs vo, MetInv w1 w' w11.heap.size (w.heap.size + 1) vs vo s.1 s.2))
      case atStart => exact ⟨0, _, rfl, ⟨Int.le_refl 0⟩, HH, MA, INV⟩
      case round =>
        clear HH MA INV
        obtain ⟨x8, s2, rfl, P8, HL, ML, INV⟩ := hrel
        obtain ⟨vs, vo, inv⟩ := INV.out
        obtain ⟨Ao, co, eo⟩ := Kd.R_slice inv.ro
        subst eo
        cases gk with
        | zero => exact absurd HL.out (by simp [metLoop])
        | succ k1 =>
          have hH := HL.out
          simp only [metLoop] at hH
          have e2 : wr.cell? ⟨w.heap.size + 1, 0, none⟩ = some (.slice Ao s2.2.length co) := (blk_cell inv.k2 0).trans rfl
          by_cases c : x8 < (s2.2.length : Int)
          · rw [if_pos c] at hH
            by_cases c2 : 0 ≤ rd s2.2 x8 ∧ rd s2.2 x8 < (l0_0.length : Int) ∧ s2.2.length ≤ 1000
            · rw [if_pos c2] at hH
              obtain ⟨c3, c4, c5⟩ := c2
              obtain ⟨go, co2, eo2, gbo, glo, clo, HGo⟩ := Kd.R_form inv.ro (by have := P8.out; omega)
              cases eo2
              obtain ⟨hoe, hof⟩ := Kd.R_celln 0 inv.ro x8 P8.out c
              have hoe2 : wr.cell? ⟨go, x8.toNat, none⟩ = some (.int .i64 (rd s2.2 x8)) := hoe
              obtain ⟨ad, Ar, cr, A9, c9, e0, hx0, hx1, hlr, hir, _, _⟩ := at_T50 HC0.out (rd s2.2 x8) c3 c4
              subst e0
              have hmem : rd_T50 l0_0 (rd s2.2 x8) ∈ l0_0 := by
                have : (rd s2.2 x8).toNat < l0_0.length := by omega
                have e9 : rd_T50 l0_0 (rd s2.2 x8) = l0_0[(rd s2.2 x8).toNat] := by simp [rd_T50, List.getD, this]
                rw [e9]
                exact List.getElem_mem _
              have hfin := FN.out.e1 _ hmem
              have hn0 := FN.out.n0
              have ML2 := meet_len (rd_T50 l0_0 (rd s2.2 x8)).f0 s2
              generalize rd_T50 l0_0 (rd s2.2 x8) = nd at hx0 hir hfin hH ML2
              generalize rd s2.2 x8 = y at hoe2 hx0 c3 c4
              have ex0 : wr.cell? (ad.add (y.toNat * 2)) = some (.slice Ar nd.f0.length cr) := (inv.below.cell (World.block_lt_of_cell? w1 _ hx0)).trans hx0
              have ex1 : wr.cell? ⟨w.heap.size, 0, none⟩ = some (.slice (some ad) l0_0.length c0_0) := (inv.below.cell (p := ⟨w.heap.size, 0, none⟩) (by have := HS1.out; show w.heap.size < _; omega)).trans ((blk_cell HX.out 0).trans rfl)
              have hcall : ∀ W, (∃ vs vo, MetInv w1 W w11.heap.size (w.heap.size + 1) vs vo s2.1 s2.2) → _ := fun W hW => meet_calls Ar cr nd.f0 w1 W w11.heap.size (w.heap.size + 1) s2.1 s2.2 hir (fun n hn => by rw [ML.out]; exact hfin.2 n hn) (by have h1 := hfin.1; omega) hW
              have IV := Aside0.mk inv
              have HH := Aside0.mk hH
              have MM := Aside0.mk (ML2.1.trans ML.out)
              have p1 := eq_true c
              have p2 := eq_true c3
              have p3 := eq_true c4
              have p4 := eq_true P8.out
              have C5 := Aside0.mk c5
              have C1 := Aside0.mk c
              clear inv hH ML2 hfin hmem hoe hof gbo glo clo HGo c3 c4 c5 c hlr hn0 hx1 hx0 HL INV ML
              go_wp2
              go_region_with (go_at_call 57; refine (hcall _ ⟨_, _, met_drew IV.out⟩).mono ?_; rintro e w9 ⟨rfl, hinv⟩; have INV := Aside0.mk hinv; clear hcall hinv)
              all_goals
                go_wp2
                go_roundg k1
                case measure => omega
                case rel => exact ⟨_, _, rfl, ⟨by have h1 := P8.out; have h2 := C5.out; have h3 := C1.out; unfold wrap64; omega⟩, HH, MM, INV⟩
            · rw [if_neg c2] at hH
              cases hH
          · rw [if_neg c] at hH
            have p1 := eq_false c
            obtain rfl := Option.some.inj hH
            have IV := Aside0.mk inv
            clear inv hH c HL INV ML
            go_wp2
            go_ret
            exact ⟨_, rfl, Kd.R_lower IV.out.ro HB1.out.size, below_step HB1.out IV.out.below⟩

/-! ### impl_GraphReach: function 18 -/
def impl_GraphReach.l0 : Nat → List Bool → List Int → Int → Int → Option (List Bool)
  | 0, _, _, _, _ => none
  | k + 1, x3, x14, x15, x16 => if x16 < x15 then (if 0 ≤ x16 then (if x16 < (x14.length : Int) then (if 0 ≤ (rd x14 x16) then (if (rd x14 x16) < (x3.length : Int) then (impl_GraphReach.l0 k (x3.set ((rd x14 x16) : Int).toNat true) x14 x15 (wrap64 (x16 + 1))) else (none)) else (none)) else (none)) else (none)) else (some x3)
def impl_GraphReach.f (k : Nat) (l0_0 : List (S50)) (l0_1 : List (List Int)) (l0_2 : List Int) : Option (List Bool) := (impl_GraphOk.f k l0_0 l0_1 l0_2).bind fun t235 => (if t235 = true then (if 0 ≤ (l0_0.length : Int) then (if ((l0_0.length : Int) : Int).toNat ≤ 281474976710656 then ((impl_Graph_met.f k l0_0 l0_1 l0_2).bind fun t239 => (impl_GraphReach.l0 k (List.replicate ((l0_0.length : Int) : Int).toNat false) t239 (t239.length : Int) 0)) else (none)) else (none)) else (some ([] : List Bool)))
theorem impl_GraphReach.mono_l : ∀ k, (∀ y0 y1 y2 y3, LeO (impl_GraphReach.l0 k y0 y1 y2 y3) (impl_GraphReach.l0 (k + 1) y0 y1 y2 y3))
  | 0 => fun _ _ _ _ r h => by simp [impl_GraphReach.l0] at h
  | k + 1 => by
    have ih0 := impl_GraphReach.mono_l k
    · intro y0 y1 y2 y3
      unfold impl_GraphReach.l0
      repeat' first
      | (with_reducible exact ih0 _ _ _ _)
      | (with_reducible exact impl_GraphOk.mono _ _ _ _)
      | (with_reducible exact impl_Graph_met.mono _ _ _ _)
      | (with_reducible exact LeO.refl _)
      | (with_reducible exact LeO.none _)
      | (with_reducible refine LeO.ite ?_ ?_)
      | (with_reducible refine LeO.bind ?_ (fun _ => ?_))
      | exact ih0 _ _ _ _
      | exact impl_GraphOk.mono _ _ _ _
      | exact impl_Graph_met.mono _ _ _ _
      | exact LeO.none _
      | refine LeO.ite ?_ ?_
      | refine LeO.bind ?_ (fun _ => ?_)
theorem impl_GraphReach.mono : ∀ a0 a1 a2 k, LeO (impl_GraphReach.f k a0 a1 a2) (impl_GraphReach.f (k + 1) a0 a1 a2) := by
  intro a0 a1 a2 k
  have ih0 := impl_GraphReach.mono_l k
  unfold impl_GraphReach.f
  repeat' first
      | (with_reducible exact ih0 _ _ _ _)
      | (with_reducible exact impl_GraphOk.mono _ _ _ _)
      | (with_reducible exact impl_Graph_met.mono _ _ _ _)
      | (with_reducible exact LeO.refl _)
      | (with_reducible exact LeO.none _)
      | (with_reducible refine LeO.ite ?_ ?_)
      | (with_reducible refine LeO.bind ?_ (fun _ => ?_))
      | exact ih0 _ _ _ _
      | exact impl_GraphOk.mono _ _ _ _
      | exact impl_Graph_met.mono _ _ _ _
      | exact LeO.none _
      | refine LeO.ite ?_ ?_
      | refine LeO.bind ?_ (fun _ => ?_)
set_option maxHeartbeats 8000000 in
set_option maxRecDepth 100000 in
theorem impl_GraphReach.calls (k : Nat) (A0_0 : Option Addr) (c0_0 : Nat) (l0_0 : List (S50)) (A0_1 : Option Addr) (c0_1 : Nat) (l0_1 : List (List Int)) (A0_2 : Option Addr) (c0_2 : Nat) (l0_2 : List Int) (r : List Bool) (w : World) (hr0_0 : Kd.C k50 w A0_0 l0_0.length l0_0) (hc0_0 : l0_0.length ≤ c0_0) (hr0_1 : Kd.C (Kd.slice 3 (Kd.int .i64)) w A0_1 l0_1.length l0_1) (hc0_1 : l0_1.length ≤ c0_1) (hr0_2 : Kd.C (Kd.int .i64) w A0_2 l0_2.length l0_2) (hc0_2 : l0_2.length ≤ c0_2) (h : impl_GraphReach.f k l0_0 l0_1 l0_2 = some r) :
    Calls Try.prog 18 #[.agg #[.slice A0_0 l0_0.length c0_0, .slice A0_1 l0_1.length c0_1, .slice A0_2 l0_2.length c0_2]] w fun e w' => ∃ v0_ : Value, e = .returned (v0_) ∧ Kd.R Kd.bool 4 w' w.heap.size (fun _ => True) v0_ r ∧ Below w.heap.size w w' := by
  have hu26 := Try.underlying26
  have HR0_0 := Aside0.mk hr0_0
  have HC0_0 := Aside0.mk hc0_0
  clear hr0_0 hc0_0
  have HR0_1 := Aside0.mk hr0_1
  have HC0_1 := Aside0.mk hc0_1
  clear hr0_1 hc0_1
  have HR0_2 := Aside0.mk hr0_2
  have HC0_2 := Aside0.mk hc0_2
  clear hr0_2 hc0_2
  have HB := Aside0.mk (Below.refl w.heap.size w)
  have H : ((impl_GraphOk.f k l0_0 l0_1 l0_2).bind fun t235 => (if t235 = true then (if 0 ≤ (l0_0.length : Int) then (if ((l0_0.length : Int) : Int).toNat ≤ 281474976710656 then ((impl_Graph_met.f k l0_0 l0_1 l0_2).bind fun t239 => (impl_GraphReach.l0 k (List.replicate ((l0_0.length : Int) : Int).toNat false) t239 (t239.length : Int) 0)) else (none)) else (none)) else (some ([] : List Bool)))) = some r := h
  clear h
  replace H := Option.bind_eq_some_iff.mp H
  obtain ⟨t235, A20, H⟩ := H
  replace H : (if t235 = true then (if 0 ≤ (l0_0.length : Int) then (if ((l0_0.length : Int) : Int).toNat ≤ 281474976710656 then ((impl_Graph_met.f k l0_0 l0_1 l0_2).bind fun t239 => (impl_GraphReach.l0 k (List.replicate ((l0_0.length : Int) : Int).toNat false) t239 (t239.length : Int) 0)) else (none)) else (none)) else (some ([] : List Bool))) = some r := H
  have A2 := Aside0.mk A20
  clear A20
  by_cases c3 : t235 = true
  · subst c3
    have H1 : (if 0 ≤ (l0_0.length : Int) then (if ((l0_0.length : Int) : Int).toNat ≤ 281474976710656 then ((impl_Graph_met.f k l0_0 l0_1 l0_2).bind fun t239 => (impl_GraphReach.l0 k (List.replicate ((l0_0.length : Int) : Int).toNat false) t239 (t239.length : Int) 0)) else (none)) else (none)) = some r := by rw [if_pos rfl] at H; exact H
    clear H
    have H := H1
    clear H1
    by_cases c4 : 0 ≤ (l0_0.length : Int)
    · rw [if_pos c4] at H
      have c4b0 := eq_true c4
      have c4b1 : decide (0 ≤ (l0_0.length : Int)) = true := decide_eq_true c4
      clear c4
      by_cases c5 : ((l0_0.length : Int) : Int).toNat ≤ 281474976710656
      · rw [if_pos c5] at H
        have c5b0 := eq_true c5
        have c5b1 : decide (((l0_0.length : Int) : Int).toNat ≤ 281474976710656) = true := decide_eq_true c5
        clear c5
        obtain ⟨y236, hy236⟩ : ∃ y_ : List Bool, y_ = (List.replicate ((l0_0.length : Int) : Int).toNat false) := ⟨_, rfl⟩
        replace H : ((impl_Graph_met.f k l0_0 l0_1 l0_2).bind fun t239 => (impl_GraphReach.l0 k y236 t239 (t239.length : Int) 0)) = some r := by first | (rw [hy236]; with_reducible exact H) | (have H2_ := (Option.bind_some _ _).symm.trans H; rw [hy236]; with_reducible exact H2_) | (have H2_ := (Option.bind_some _ _).symm.trans H; with_reducible exact H2_) | with_reducible exact H | (rw [hy236]; exact H) | exact H
        have Ny236 := Aside0.mk hy236
        clear hy236
        replace H := Option.bind_eq_some_iff.mp H
        obtain ⟨t239, A60, H⟩ := H
        replace H : (impl_GraphReach.l0 k y236 t239 (t239.length : Int) 0) = some r := H
        have A6 := Aside0.mk A60
        clear A60
        have H' := Aside0.mk H
        clear H
        go_enter Try.func18, Try.ntmps18
        go_wp2_with (first | ((with_reducible refine gate_dst (N := 1) rfl ?_); refine box_event ?hg (N := 1) ?hd (cs := #[.slice A0_0 l0_0.length c0_0, .slice A0_1 l0_1.length c0_1, .slice A0_2 l0_2.length c0_2]) (t := 26) ?hr ?_; (case hd => rfl); (case hg => rfl); (case hr => first | (go_simp; done) | (go_simp; rfl)); intro gb234 hg w7 hbox hb; have n0_ := Aside0.mk (below_step (by repeat (first | (with_reducible first | exact HB.out | apply below_alloc | apply pw_below_drewN | apply below_drew1) | exact HB.out)) hb); have n1_ := Aside0.mk (hbox); have n2_ := Aside0.mk ((by rw [hg]; exact (below_size (by repeat (first | (with_reducible first | exact HB.out | apply below_alloc | apply pw_below_drewN | apply below_drew1) | exact HB.out))) : w.heap.size ≤ gb234)); have n3_ := Aside0.mk ((by rw [hg]; exact (below_size (by repeat (first | (with_reducible first | exact HB.out | apply below_alloc | apply pw_below_drewN | apply below_drew1) | exact HB.out))) : w.heap.size ≤ gb234)); clear HB; have HB := n0_; have BK234 := n1_; have GW234 := n2_; have GE234 := n3_; clear n0_ n1_ n2_ n3_; clear hb hbox hg; have hcz8_0 : w7.cell? ⟨gb234, 0, none⟩ = some (.slice A0_0 l0_0.length c0_0) := (blk_cell BK234.out 0).trans rfl; have hcz8_1 : w7.cell? ⟨gb234, 1, none⟩ = some (.slice A0_1 l0_1.length c0_1) := (blk_cell BK234.out 1).trans rfl; have hcz8_2 : w7.cell? ⟨gb234, 2, none⟩ = some (.slice A0_2 l0_2.length c0_2) := (blk_cell BK234.out 2).trans rfl; have hfz8_0 := blk_frozen BK234.out 0; have hfz8_1 := blk_frozen BK234.out 1; have hfz8_2 := blk_frozen BK234.out 2) | ((with_reducible refine gate_callee (f := 16) rfl ?_); refine goesL_ (some 7) rfl rfl Try.func16 (by kernel_rfl) rfl #[.agg #[.slice A0_0 l0_0.length c0_0, .slice A0_1 l0_1.length c0_1, .slice A0_2 l0_2.length c0_2]] rfl (by (try simp only [List.map_toArray, List.map_cons, List.map_nil]); first | done | rfl | (simp only [List.length_drop, List.length_take]; rfl)) ?_; (with_reducible refine (impl_GraphOk.calls k _ _ l0_0 _ _ l0_1 _ _ l0_2 true _ ?side1 ?side2 ?side3 ?side4 ?side5 ?side6 A2.out).mono ?_); (case side1 => repeat (first | exact (Kd.C_below HR0_0.out HB.out) | (with_reducible refine Kd.C_alloc ?_ _) | (with_reducible refine Kd.C_drewN ?_ _) | (with_reducible refine Kd.C_drew ?_))); (case side2 => exact HC0_0.out); (case side3 => repeat (first | exact (Kd.C_below HR0_1.out HB.out) | (with_reducible refine Kd.C_alloc ?_ _) | (with_reducible refine Kd.C_drewN ?_ _) | (with_reducible refine Kd.C_drew ?_))); (case side4 => exact HC0_1.out); (case side5 => repeat (first | exact (Kd.C_below HR0_2.out HB.out) | (with_reducible refine Kd.C_alloc ?_ _) | (with_reducible refine Kd.C_drewN ?_ _) | (with_reducible refine Kd.C_drew ?_))); (case side6 => exact HC0_2.out); rintro e w9 ⟨rfl, hb⟩; refine ⟨_, rfl, ?_⟩; have n0_ := Aside0.mk (blk_below (g := gb234) (o := .cells #[.slice A0_0 l0_0.length c0_0, .slice A0_1 l0_1.length c0_1, .slice A0_2 l0_2.length c0_2] 26 (0, 0)) (by (with_reducible repeat (first | refine blk_drewN ?_ _ | refine blk_drew ?_ | refine blk_alloc ?_ _)); exact BK234.out) hb); have n1_ := Aside0.mk (below_step (by repeat (first | (with_reducible first | exact HB.out | apply below_alloc | apply pw_below_drewN | apply below_drew1 | refine below_set ?_ GE234.out) | exact HB.out)) hb); clear BK234; clear HB; have BK234 := n0_; have HB := n1_; clear n0_ n1_; (try clear hb); (try clear hb2); (try clear hk); (try clear hi); have hcz10_0 : w9.cell? ⟨gb234, 0, none⟩ = some (.slice A0_0 l0_0.length c0_0) := (blk_cell BK234.out 0).trans rfl; have hcz10_1 : w9.cell? ⟨gb234, 1, none⟩ = some (.slice A0_1 l0_1.length c0_1) := (blk_cell BK234.out 1).trans rfl; have hcz10_2 : w9.cell? ⟨gb234, 2, none⟩ = some (.slice A0_2 l0_2.length c0_2) := (blk_cell BK234.out 2).trans rfl; have hfz10_0 := blk_frozen BK234.out 0; have hfz10_1 := blk_frozen BK234.out 1; have hfz10_2 := blk_frozen BK234.out 2) | ((with_reducible refine gate_dst (N := 12) rfl ?_); refine Kd.R_make Kd.bool _ 4 rfl (N := 12) rfl 39 _ _ rfl (l0_0.length : Int) rfl rfl Try.underlying39 (.bool false) 1 info4 rfl (by decide) (by omega) false (ok := fun _ => True) (okp := fun _ => True) rfl (fun _ hk => hk) trivial (of_decide_eq_true (by first | (with_reducible assumption) | assumption)) (Nat.le_trans (Nat.mul_le_mul_right _ (of_decide_eq_true (by first | (with_reducible assumption) | assumption) : (l0_0.length : Int).toNat ≤ 281474976710656)) (by omega)) (Below.refl _ _) (Nat.le_refl _) ?_; intro v237 w11 ho12 hb hg_ hnew_; clear hg_ hnew_; (first | rw [← Ny236.out] at ho12 | (simp only [Int.reduceToNat] at ho12; rw [← Ny236.out] at ho12)); have n0_ := Aside0.mk (Kd.R_lower ho12 (below_size (by repeat (first | (with_reducible first | exact HB.out | apply below_alloc | apply pw_below_drewN | apply below_drew1 | refine below_set ?_ GE234.out) | exact HB.out)))); have n1_ := Aside0.mk (blk_below (g := gb234) (o := .cells #[.slice A0_0 l0_0.length c0_0, .slice A0_1 l0_1.length c0_1, .slice A0_2 l0_2.length c0_2] 26 (0, 0)) (by (with_reducible repeat (first | refine blk_drewN ?_ _ | refine blk_drew ?_ | refine blk_alloc ?_ _)); exact BK234.out) hb); have n2_ := Aside0.mk (below_step (by repeat (first | (with_reducible first | exact HB.out | apply below_alloc | apply pw_below_drewN | apply below_drew1 | refine below_set ?_ GE234.out) | exact HB.out)) hb); clear BK234; clear HB; have HO238 := n0_; have BK234 := n1_; have HB := n2_; clear n0_ n1_ n2_; clear hb ho12; have hcz13_0 : w11.cell? ⟨gb234, 0, none⟩ = some (.slice A0_0 l0_0.length c0_0) := (blk_cell BK234.out 0).trans rfl; have hcz13_1 : w11.cell? ⟨gb234, 1, none⟩ = some (.slice A0_1 l0_1.length c0_1) := (blk_cell BK234.out 1).trans rfl; have hcz13_2 : w11.cell? ⟨gb234, 2, none⟩ = some (.slice A0_2 l0_2.length c0_2) := (blk_cell BK234.out 2).trans rfl; have hfz13_0 := blk_frozen BK234.out 0; have hfz13_1 := blk_frozen BK234.out 1; have hfz13_2 := blk_frozen BK234.out 2) | ((with_reducible refine gate_callee (f := 45) rfl ?_); refine goesL_ (some 14) rfl rfl Try.func45 (by kernel_rfl) rfl #[.agg #[.slice A0_0 l0_0.length c0_0, .slice A0_1 l0_1.length c0_1, .slice A0_2 l0_2.length c0_2]] rfl (by (try simp only [List.map_toArray, List.map_cons, List.map_nil]); first | done | rfl | (simp only [List.length_drop, List.length_take]; rfl)) ?_; (with_reducible refine (impl_Graph_met.calls k _ _ l0_0 _ _ l0_1 _ _ l0_2 t239 _ ?side1 ?side2 ?side3 ?side4 ?side5 ?side6 A6.out).mono ?_); (case side1 => repeat (first | exact (Kd.C_below HR0_0.out HB.out) | (with_reducible refine Kd.C_alloc ?_ _) | (with_reducible refine Kd.C_drewN ?_ _) | (with_reducible refine Kd.C_drew ?_))); (case side2 => exact HC0_0.out); (case side3 => repeat (first | exact (Kd.C_below HR0_1.out HB.out) | (with_reducible refine Kd.C_alloc ?_ _) | (with_reducible refine Kd.C_drewN ?_ _) | (with_reducible refine Kd.C_drew ?_))); (case side4 => exact HC0_1.out); (case side5 => repeat (first | exact (Kd.C_below HR0_2.out HB.out) | (with_reducible refine Kd.C_alloc ?_ _) | (with_reducible refine Kd.C_drewN ?_ _) | (with_reducible refine Kd.C_drew ?_))); (case side6 => exact HC0_2.out); rintro e w14 ⟨v240, rfl, ho0, hb⟩; refine ⟨_, rfl, ?_⟩; have n0_ := Aside0.mk (Kd.R_below (by (with_reducible repeat (first | apply Kd.R_alloc | apply Kd.R_drewN | apply Kd.R_drew)); exact HO238.out) hb); have n1_ := Aside0.mk (Kd.R_lower ho0 (below_size (by repeat (first | (with_reducible first | exact HB.out | apply below_alloc | apply pw_below_drewN | apply below_drew1 | refine below_set ?_ GE234.out) | exact HB.out)))); have n2_ := Aside0.mk (blk_below (g := gb234) (o := .cells #[.slice A0_0 l0_0.length c0_0, .slice A0_1 l0_1.length c0_1, .slice A0_2 l0_2.length c0_2] 26 (0, 0)) (by (with_reducible repeat (first | refine blk_drewN ?_ _ | refine blk_drew ?_ | refine blk_alloc ?_ _)); exact BK234.out) hb); have n3_ := Aside0.mk (below_step (by repeat (first | (with_reducible first | exact HB.out | apply below_alloc | apply pw_below_drewN | apply below_drew1 | refine below_set ?_ GE234.out) | exact HB.out)) hb); clear HO238; clear BK234; clear HB; have HO238 := n0_; have HO241 := n1_; have BK234 := n2_; have HB := n3_; clear n0_ n1_ n2_ n3_; (try clear hb); (try clear hb2); (try clear hk); (try clear hi); (try clear ho0); obtain ⟨Ao15, co15, eo15⟩ := Kd.R_slice HO241.out; subst eo15))
        go_loopg [16] k (fun kq v16 w' => ∃ (x3_1 : List Bool) (x16_1 : Int), v16 = .int .i64 x16_1 ∧ Aside0 (impl_GraphReach.l0 kq x3_1 t239 (t239.length : Int) x16_1 = some r) ∧ Aside0 (kq ≤ k) ∧ Aside0 (Kd.R Kd.bool 4 w' w.heap.size (fun _ => True) v237 x3_1) ∧ Aside0 (Kd.R (Kd.int .i64) 3 w' w.heap.size (fun _ => True) (.slice Ao15 t239.length co15) t239) ∧ Aside0 (w'.heap[gb234]? = some (.cells #[(.slice A0_0 l0_0.length c0_0), (.slice A0_1 l0_1.length c0_1), (.slice A0_2 l0_2.length c0_2)] 26 (0, 0))) ∧ Aside0 (Below w.heap.size w w'))
        case atStart => exact ⟨(y236), (0), (by first | rfl | (simp; done) | (simp [*]; done)), H', ⟨Nat.le_refl _⟩, ⟨by (with_reducible repeat (first | apply Kd.R_alloc | apply Kd.R_drewN | apply Kd.R_drew)); exact HO238.out⟩, ⟨by (with_reducible repeat (first | apply Kd.R_alloc | apply Kd.R_drewN | apply Kd.R_drew)); exact HO241.out⟩, ⟨by (with_reducible repeat (first | refine blk_drewN ?_ _ | refine blk_drew ?_ | refine blk_alloc ?_ _)); exact BK234.out⟩, ⟨by repeat (first | (with_reducible first | exact HB.out | apply below_alloc | apply pw_below_drewN | apply below_drew1 | refine below_set ?_ GE234.out) | exact HB.out)⟩⟩
        case round =>
          clear H'
          try clear c1
          try clear p2
          try clear c3
          try clear c4
          try clear c4b0
          try clear c4b1
          try clear c5
          try clear c5b0
          try clear c5b1
          try clear hcz10_0
          try clear hcz10_1
          try clear hcz10_2
          try clear hcz13_0
          try clear hcz13_1
          try clear hcz13_2
          try clear hcz8_0
          try clear hcz8_1
          try clear hcz8_2
          try clear hfz10_0
          try clear hfz10_1
          try clear hfz10_2
          try clear hfz13_0
          try clear hfz13_1
          try clear hfz13_2
          try clear hfz8_0
          try clear hfz8_1
          try clear hfz8_2
          obtain ⟨x3_1, x16_1, rfl, HA, HK1, HO_3, HO_14, BK234, HB⟩ := hrel
          cases gk with
          | zero => exact absurd HA.out (by simp [impl_GraphReach.l0])
          | succ k1 =>
            have H := HA.out
            clear HA
            simp only [impl_GraphReach.l0] at H
            by_cases c16 : x16_1 < (t239.length : Int)
            · rw [if_pos c16] at H
              have c16b0 : decide (x16_1 < (t239.length : Int)) = true := decide_eq_true c16
              clear c16
              by_cases c17 : 0 ≤ x16_1
              · rw [if_pos c17] at H
                have c17b0 : decide (0 ≤ x16_1) = true := decide_eq_true c17
                clear c17
                by_cases c18 : x16_1 < (t239.length : Int)
                · rw [if_pos c18] at H
                  have c18b0 : decide (x16_1 < (t239.length : Int)) = true := decide_eq_true c18
                  clear c18
                  by_cases c19 : 0 ≤ (rd t239 x16_1)
                  · rw [if_pos c19] at H
                    have c19b0 : decide (0 ≤ (rd t239 x16_1)) = true := decide_eq_true c19
                    clear c19
                    by_cases c20 : (rd t239 x16_1) < (x3_1.length : Int)
                    · rw [if_pos c20] at H
                      have c20b0 : decide ((rd t239 x16_1) < (x3_1.length : Int)) = true := decide_eq_true c20
                      clear c20
                      obtain ⟨y243, hy243⟩ : ∃ y_ : List Bool, y_ = (x3_1.set ((rd t239 x16_1) : Int).toNat true) := ⟨_, rfl⟩
                      replace H : (impl_GraphReach.l0 k1 y243 t239 (t239.length : Int) (wrap64 (x16_1 + 1))) = some r := by first | (rw [hy243]; with_reducible exact H) | (have H2_ := (Option.bind_some _ _).symm.trans H; rw [hy243]; with_reducible exact H2_) | (have H2_ := (Option.bind_some _ _).symm.trans H; with_reducible exact H2_) | with_reducible exact H | (rw [hy243]; exact H) | exact H
                      have Ny243 := Aside0.mk hy243
                      clear hy243
                      have H' := Aside0.mk H
                      clear H
                      have p242 : 0 ≤ (x16_1 : Int) := of_decide_eq_true (by first | (with_reducible assumption) | assumption)
                      have q242 : x16_1 < (t239.length : Int) := of_decide_eq_true (by first | (with_reducible assumption) | assumption)
                      obtain ⟨ad242, e242, hx242_0⟩ := Kd.at_int (Kd.R_reads' HO_14.out).2.2 x16_1 p242 q242
                      cases e242
                      replace p242 := eq_true p242
                      replace q242 := eq_true q242
                      have p21 : 0 ≤ ((rd t239 x16_1) : Int) := of_decide_eq_true (by first | (with_reducible assumption) | assumption)
                      have q21 : ((rd t239 x16_1) : Int) < ((x3_1.length : Int) : Int) := of_decide_eq_true (by first | (with_reducible assumption) | assumption)
                      obtain ⟨go21, co21, eo21, gb21, gl21, cl21, HG21⟩ := Kd.R_form HO_3.out (by omega)
                      (first | cases eo21 | (injection eo21 with ea_ en_ ec_; (first | subst ea_ | (injection ea_ with ea_; subst ea_)); subst ec_; clear en_))
                      have GB21 := Aside0.mk gb21
                      have GG21 := Aside0.mk HG21
                      clear gb21 gl21 HG21
                      obtain ⟨hx21_0, hf21_0⟩ := Kd.R_celln false HO_3.out ((rd t239 x16_1) : Int) p21 q21
                      replace p21 := eq_true p21
                      replace q21 := eq_true q21
                      have HP22 := Kd.R_putg HO_3.out ((rd t239 x16_1) : Int) true
                      go_wp2_with (first | ((with_reducible refine gate_store (t := 4) (p := 22) rfl ?_); refine store_event (t := 4) (p := 22) (v := ?vo_w23) (w1 := (wr.setCell ⟨go21, ((rd t239 x16_1) : Int).toNat, none⟩ (.bool true))) ?hg ?ho ?hn ?hr ?_; (case ho => rfl); (case hg => rfl); (case hn => rfl); (case hr => first | (go_simp; done) | (go_simp; rfl)); intro w23 hw; have hg : wr.grownBy w23 (some go21) := (by rw [hw]; exact HP22.2); have hp_ : Kd.R Kd.bool 4 w23 w.heap.size (fun _ => True) (.slice (some ⟨go21, 0, none⟩) x3_1.length co21) y243 := (by rw [hw, Ny243.out]; exact HP22.1); clear HP22; have n0_ := Aside0.mk (hp_); have n1_ := Aside0.mk (Kd.R_over' (v := (.slice (some ⟨go21, 0, none⟩) x3_1.length co21)) (by (with_reducible repeat (first | apply Kd.R_alloc | apply Kd.R_drewN | apply Kd.R_drew)); exact HO_14.out) (Kd.R_typed HO_3.out) (by decide) hg); have n2_ := Aside0.mk (blk_grown (g := gb234) (o := .cells #[.slice A0_0 l0_0.length c0_0, .slice A0_1 l0_1.length c0_1, .slice A0_2 l0_2.length c0_2] 26 (0, 0)) (by (with_reducible repeat (first | refine blk_drewN ?_ _ | refine blk_drew ?_ | refine blk_alloc ?_ _)); exact BK234.out) hg (Kd.R_ne HO_3.out BK234.out (by decide))); have n3_ := Aside0.mk ((by rw [hw]; exact below_set (HB.out) GB21.out : Below w.heap.size w w23)); clear HO_3; clear HO_14; clear BK234; clear HB; have HO_3 := n0_; have HO_14 := n1_; have BK234 := n2_; have HB := n3_; clear n0_ n1_ n2_ n3_; clear hg hw hp_))
                      go_roundg k1
                      case measure => have := HK1.out; omega
                      case rel => exact ⟨(y243), (wrap64 (x16_1 + 1)), (by first | rfl | (simp; done) | (simp [*]; done)), H', ⟨by have := HK1.out; omega⟩, ⟨by (with_reducible repeat (first | apply Kd.R_alloc | apply Kd.R_drewN | apply Kd.R_drew)); exact HO_3.out⟩, ⟨by (with_reducible repeat (first | apply Kd.R_alloc | apply Kd.R_drewN | apply Kd.R_drew)); exact HO_14.out⟩, ⟨by (with_reducible repeat (first | refine blk_drewN ?_ _ | refine blk_drew ?_ | refine blk_alloc ?_ _)); exact BK234.out⟩, ⟨by repeat (first | (with_reducible first | exact HB.out | apply below_alloc | apply pw_below_drewN | apply below_drew1 | refine below_set ?_ GE234.out) | exact HB.out)⟩⟩
                    · rw [if_neg c20] at H
                      exact absurd H (by simp)
                  · rw [if_neg c19] at H
                    exact absurd H (by simp)
                · rw [if_neg c18] at H
                  exact absurd H (by simp)
              · rw [if_neg c17] at H
                exact absurd H (by simp)
            · rw [if_neg c16] at H
              have c16b0 : decide (x16_1 < (t239.length : Int)) = false := decide_eq_false c16
              clear c16
              obtain rfl := Option.some.inj H
              go_wp2
              go_ret
              exact ⟨_, by first | rfl | (simp [errW_none, errW_some] <;> rfl) | (simp [*, errW_none, errW_some] <;> rfl), by (with_reducible repeat (first | apply Kd.R_alloc | apply Kd.R_drewN | apply Kd.R_drew)); exact HO_3.out, by repeat (first | (with_reducible first | exact HB.out | apply below_alloc | apply pw_below_drewN | apply below_drew1 | refine below_set ?_ GE234.out) | exact HB.out)⟩
      · rw [if_neg c5] at H
        exact absurd H (by simp)
    · rw [if_neg c4] at H
      exact absurd H (by simp)
  · replace c3 := Bool.eq_false_iff.mpr c3
    subst c3
    have H1 : (some ([] : List Bool)) = some r := by rw [if_neg (show ¬ (false = true) by decide)] at H; exact H
    clear H
    have H := H1
    clear H1
    obtain rfl := Option.some.inj H
    go_enter Try.func18, Try.ntmps18
    go_wp2_with (first | ((with_reducible refine gate_dst (N := 1) rfl ?_); refine box_event ?hg (N := 1) ?hd (cs := #[.slice A0_0 l0_0.length c0_0, .slice A0_1 l0_1.length c0_1, .slice A0_2 l0_2.length c0_2]) (t := 26) ?hr ?_; (case hd => rfl); (case hg => rfl); (case hr => first | (go_simp; done) | (go_simp; rfl)); intro gb234 hg w24 hbox hb; have n0_ := Aside0.mk (below_step (by repeat (first | (with_reducible first | exact HB.out | apply below_alloc | apply pw_below_drewN | apply below_drew1) | exact HB.out)) hb); have n1_ := Aside0.mk (hbox); have n2_ := Aside0.mk ((by rw [hg]; exact (below_size (by repeat (first | (with_reducible first | exact HB.out | apply below_alloc | apply pw_below_drewN | apply below_drew1) | exact HB.out))) : w.heap.size ≤ gb234)); have n3_ := Aside0.mk ((by rw [hg]; exact (below_size (by repeat (first | (with_reducible first | exact HB.out | apply below_alloc | apply pw_below_drewN | apply below_drew1) | exact HB.out))) : w.heap.size ≤ gb234)); clear HB; have HB := n0_; have BK234 := n1_; have GW234 := n2_; have GE234 := n3_; clear n0_ n1_ n2_ n3_; clear hb hbox hg; have hcz25_0 : w24.cell? ⟨gb234, 0, none⟩ = some (.slice A0_0 l0_0.length c0_0) := (blk_cell BK234.out 0).trans rfl; have hcz25_1 : w24.cell? ⟨gb234, 1, none⟩ = some (.slice A0_1 l0_1.length c0_1) := (blk_cell BK234.out 1).trans rfl; have hcz25_2 : w24.cell? ⟨gb234, 2, none⟩ = some (.slice A0_2 l0_2.length c0_2) := (blk_cell BK234.out 2).trans rfl; have hfz25_0 := blk_frozen BK234.out 0; have hfz25_1 := blk_frozen BK234.out 1; have hfz25_2 := blk_frozen BK234.out 2) | ((with_reducible refine gate_callee (f := 16) rfl ?_); refine goesL_ (some 7) rfl rfl Try.func16 (by kernel_rfl) rfl #[.agg #[.slice A0_0 l0_0.length c0_0, .slice A0_1 l0_1.length c0_1, .slice A0_2 l0_2.length c0_2]] rfl (by (try simp only [List.map_toArray, List.map_cons, List.map_nil]); first | done | rfl | (simp only [List.length_drop, List.length_take]; rfl)) ?_; (with_reducible refine (impl_GraphOk.calls k _ _ l0_0 _ _ l0_1 _ _ l0_2 false _ ?side1 ?side2 ?side3 ?side4 ?side5 ?side6 A2.out).mono ?_); (case side1 => repeat (first | exact (Kd.C_below HR0_0.out HB.out) | (with_reducible refine Kd.C_alloc ?_ _) | (with_reducible refine Kd.C_drewN ?_ _) | (with_reducible refine Kd.C_drew ?_))); (case side2 => exact HC0_0.out); (case side3 => repeat (first | exact (Kd.C_below HR0_1.out HB.out) | (with_reducible refine Kd.C_alloc ?_ _) | (with_reducible refine Kd.C_drewN ?_ _) | (with_reducible refine Kd.C_drew ?_))); (case side4 => exact HC0_1.out); (case side5 => repeat (first | exact (Kd.C_below HR0_2.out HB.out) | (with_reducible refine Kd.C_alloc ?_ _) | (with_reducible refine Kd.C_drewN ?_ _) | (with_reducible refine Kd.C_drew ?_))); (case side6 => exact HC0_2.out); rintro e w26 ⟨rfl, hb⟩; refine ⟨_, rfl, ?_⟩; have n0_ := Aside0.mk (blk_below (g := gb234) (o := .cells #[.slice A0_0 l0_0.length c0_0, .slice A0_1 l0_1.length c0_1, .slice A0_2 l0_2.length c0_2] 26 (0, 0)) (by (with_reducible repeat (first | refine blk_drewN ?_ _ | refine blk_drew ?_ | refine blk_alloc ?_ _)); exact BK234.out) hb); have n1_ := Aside0.mk (below_step (by repeat (first | (with_reducible first | exact HB.out | apply below_alloc | apply pw_below_drewN | apply below_drew1 | refine below_set ?_ GE234.out) | exact HB.out)) hb); clear BK234; clear HB; have BK234 := n0_; have HB := n1_; clear n0_ n1_; (try clear hb); (try clear hb2); (try clear hk); (try clear hi)))
    go_ret
    exact ⟨_, by first | rfl | (simp [errW_none, errW_some] <;> rfl) | (simp [*, errW_none, errW_some] <;> rfl), by first | exact Kd.R_nil _ _ _ _ _ | exact Kd.N_nil _ _ _ _ _ | exact Kd.V_nil _ _ _ _ _ | exact Kd.Q_nil _ _ _ _ _ | exact Kd.S_nil _ _ _ _ _, by repeat (first | (with_reducible first | exact HB.out | apply below_alloc | apply pw_below_drewN | apply below_drew1 | refine below_set ?_ GE234.out) | exact HB.out)⟩

/-! ### laws_eqBoolS: function 19 -/
def laws_eqBoolS.l0 : Nat → List Bool → List Bool → Int → Option (Bool)
  | 0, _, _, _ => none
  | k + 1, x0, x1, x5 => if x5 < (x0.length : Int) then (if 0 ≤ x5 then (if x5 < (x1.length : Int) then (if ((rdOf false x0 x5) != (rdOf false x1 x5)) = true then (some false) else (laws_eqBoolS.l0 k x0 x1 (wrap64 (x5 + 1)))) else (none)) else (none)) else (some true)
def laws_eqBoolS.f (k : Nat) (l0 : List Bool) (l1 : List Bool) : Option (Bool) := if (l0.length : Int) = (l1.length : Int) then (laws_eqBoolS.l0 k l0 l1 0) else (some false)
theorem laws_eqBoolS.mono_l : ∀ k, (∀ y0 y1 y2, LeO (laws_eqBoolS.l0 k y0 y1 y2) (laws_eqBoolS.l0 (k + 1) y0 y1 y2))
  | 0 => fun _ _ _ r h => by simp [laws_eqBoolS.l0] at h
  | k + 1 => by
    have ih0 := laws_eqBoolS.mono_l k
    · intro y0 y1 y2
      unfold laws_eqBoolS.l0
      repeat' first
      | (with_reducible exact ih0 _ _ _)
      | (with_reducible exact LeO.refl _)
      | (with_reducible exact LeO.none _)
      | (with_reducible refine LeO.ite ?_ ?_)
      | (with_reducible refine LeO.bind ?_ (fun _ => ?_))
      | exact ih0 _ _ _
      | exact LeO.none _
      | refine LeO.ite ?_ ?_
      | refine LeO.bind ?_ (fun _ => ?_)
theorem laws_eqBoolS.mono : ∀ a0 a1 k, LeO (laws_eqBoolS.f k a0 a1) (laws_eqBoolS.f (k + 1) a0 a1) := by
  intro a0 a1 k
  have ih0 := laws_eqBoolS.mono_l k
  unfold laws_eqBoolS.f
  repeat' first
      | (with_reducible exact ih0 _ _ _)
      | (with_reducible exact LeO.refl _)
      | (with_reducible exact LeO.none _)
      | (with_reducible refine LeO.ite ?_ ?_)
      | (with_reducible refine LeO.bind ?_ (fun _ => ?_))
      | exact ih0 _ _ _
      | exact LeO.none _
      | refine LeO.ite ?_ ?_
      | refine LeO.bind ?_ (fun _ => ?_)
set_option maxHeartbeats 8000000 in
set_option maxRecDepth 100000 in
theorem laws_eqBoolS.calls (k : Nat) (A0 : Option Addr) (c0 : Nat) (l0 : List Bool) (A1 : Option Addr) (c1 : Nat) (l1 : List Bool) (r : Bool) (w : World) (hr0 : Kd.C Kd.bool w A0 l0.length l0) (hc0 : l0.length ≤ c0) (hr1 : Kd.C Kd.bool w A1 l1.length l1) (hc1 : l1.length ≤ c1) (h : laws_eqBoolS.f k l0 l1 = some r) :
    Calls Try.prog 19 #[.slice A0 l0.length c0, .slice A1 l1.length c1] w fun e w' => e = .returned (.bool r) ∧ Drawn0 w w' := by
  have HR0 := Aside0.mk hr0
  have HC0 := Aside0.mk hc0
  clear hr0 hc0
  have HR1 := Aside0.mk hr1
  have HC1 := Aside0.mk hc1
  clear hr1 hc1
  have H : (if (l0.length : Int) = (l1.length : Int) then (laws_eqBoolS.l0 k l0 l1 0) else (some false)) = some r := h
  clear h
  by_cases c3 : (l0.length : Int) = (l1.length : Int)
  · rw [if_pos c3] at H
    have c3b0 : ((l0.length : Int) == (l1.length : Int)) = true := beq_iff_eq.mpr c3
    have c3b1 : ((l0.length : Int) != (l1.length : Int)) = false := bne_eq_false_iff_eq.mpr c3
    have c3b2 : (l0.length == l1.length) = true := by first | simpa using c3 | (simp at c3 ⊢; omega)
    clear c3
    have H' := Aside0.mk H
    clear H
    go_enter Try.func19, Try.ntmps19
    go_wp2
    repeat (go_quiet (fail); try go_wp2)
    go_loopg [5] k (fun kq v5 w' => ∃ (x5_1 : Int), v5 = .int .i64 x5_1 ∧ Aside0 (laws_eqBoolS.l0 kq l0 l1 x5_1 = some r) ∧ Aside0 (kq ≤ k) ∧ Drawn0 w w')
    case atStart => exact ⟨(0), (by first | rfl | (simp; done) | (simp [*]; done)), H', ⟨Nat.le_refl _⟩, by repeat (first | exact Drawn0.refl _ | apply Drawn0.step)⟩
    case round =>
      clear H'
      try clear c1
      try clear p2
      try clear c3
      try clear c3b0
      try clear c3b1
      try clear c3b2
      obtain ⟨x5_1, rfl, HA, HK1, ⟨m1, rfl⟩⟩ := hrel
      cases gk with
      | zero => exact absurd HA.out (by simp [laws_eqBoolS.l0])
      | succ k1 =>
        have H := HA.out
        clear HA
        simp only [laws_eqBoolS.l0] at H
        by_cases c4 : x5_1 < (l0.length : Int)
        · rw [if_pos c4] at H
          have c4b0 : decide (x5_1 < (l0.length : Int)) = true := decide_eq_true c4
          clear c4
          by_cases c5 : 0 ≤ x5_1
          · rw [if_pos c5] at H
            have c5b0 : decide (0 ≤ x5_1) = true := decide_eq_true c5
            clear c5
            by_cases c6 : x5_1 < (l1.length : Int)
            · rw [if_pos c6] at H
              have c6b0 : decide (x5_1 < (l1.length : Int)) = true := decide_eq_true c6
              clear c6
              by_cases c7 : ((rdOf false l0 x5_1) != (rdOf false l1 x5_1)) = true
              · rw [if_pos c7] at H
                have c7b0 : ((rdOf false l0 x5_1) != (rdOf false l1 x5_1)) = true := c7
                (try (have c7b1 : decide ((rdOf false l0 x5_1) = (rdOf false l1 x5_1)) = false := by simpa using c7))
                (try (have c7b2 : ((rdOf false l0 x5_1) == (rdOf false l1 x5_1)) = false := by simpa using c7))
                (try (have c7b3 : ¬ ((rdOf false l0 x5_1) = (rdOf false l1 x5_1)) := by simpa using c7))
                clear c7
                obtain rfl := Option.some.inj H
                have p244 : 0 ≤ (x5_1 : Int) := of_decide_eq_true (by first | (with_reducible assumption) | assumption)
                have q244 : x5_1 < (l0.length : Int) := of_decide_eq_true (by first | (with_reducible assumption) | assumption)
                obtain ⟨ad244, e244, hx244_0⟩ := Kd.at_bool HR0.out x5_1 p244 q244
                cases e244
                replace p244 := eq_true p244
                replace q244 := eq_true q244
                have p245 : 0 ≤ (x5_1 : Int) := of_decide_eq_true (by first | (with_reducible assumption) | assumption)
                have q245 : x5_1 < (l1.length : Int) := of_decide_eq_true (by first | (with_reducible assumption) | assumption)
                obtain ⟨ad245, e245, hx245_0⟩ := Kd.at_bool HR1.out x5_1 p245 q245
                cases e245
                replace p245 := eq_true p245
                replace q245 := eq_true q245
                go_wp2
                repeat (go_quiet (fail); try go_wp2)
                go_ret
                exact ⟨by first | rfl | (simp; done) | (simp [*]; done), by repeat (first | exact Drawn0.refl _ | apply Drawn0.step)⟩
              · rw [if_neg c7] at H
                have c7b0 : ((rdOf false l0 x5_1) != (rdOf false l1 x5_1)) = false := by simpa using c7
                (try (have c7b1 : decide ((rdOf false l0 x5_1) = (rdOf false l1 x5_1)) = true := by simpa using c7))
                (try (have c7b2 : ((rdOf false l0 x5_1) == (rdOf false l1 x5_1)) = true := by simpa using c7))
                clear c7
                have H' := Aside0.mk H
                clear H
                have p244 : 0 ≤ (x5_1 : Int) := of_decide_eq_true (by first | (with_reducible assumption) | assumption)
                have q244 : x5_1 < (l0.length : Int) := of_decide_eq_true (by first | (with_reducible assumption) | assumption)
                obtain ⟨ad244, e244, hx244_0⟩ := Kd.at_bool HR0.out x5_1 p244 q244
                cases e244
                replace p244 := eq_true p244
                replace q244 := eq_true q244
                have p245 : 0 ≤ (x5_1 : Int) := of_decide_eq_true (by first | (with_reducible assumption) | assumption)
                have q245 : x5_1 < (l1.length : Int) := of_decide_eq_true (by first | (with_reducible assumption) | assumption)
                obtain ⟨ad245, e245, hx245_0⟩ := Kd.at_bool HR1.out x5_1 p245 q245
                cases e245
                replace p245 := eq_true p245
                replace q245 := eq_true q245
                go_wp2
                repeat (go_quiet (fail); try go_wp2)
                go_roundg k1
                case measure => have := HK1.out; omega
                case rel => exact ⟨(wrap64 (x5_1 + 1)), (by first | rfl | (simp; done) | (simp [*]; done)), H', ⟨by have := HK1.out; omega⟩, by repeat (first | exact Drawn0.refl _ | apply Drawn0.step)⟩
            · rw [if_neg c6] at H
              exact absurd H (by simp)
          · rw [if_neg c5] at H
            exact absurd H (by simp)
        · rw [if_neg c4] at H
          have c4b0 : decide (x5_1 < (l0.length : Int)) = false := decide_eq_false c4
          clear c4
          obtain rfl := Option.some.inj H
          go_wp2
          repeat (go_quiet (fail); try go_wp2)
          go_ret
          exact ⟨by first | rfl | (simp; done) | (simp [*]; done), by repeat (first | exact Drawn0.refl _ | apply Drawn0.step)⟩
  · rw [if_neg c3] at H
    have c3b0 : ((l0.length : Int) == (l1.length : Int)) = false := beq_eq_false_iff_ne.mpr c3
    have c3b1 : ((l0.length : Int) != (l1.length : Int)) = true := bne_iff_ne.mpr c3
    have c3b2 : (l0.length == l1.length) = false := by first | simpa using c3 | (simp at c3 ⊢; omega)
    obtain rfl := Option.some.inj H
    go_enter Try.func19, Try.ntmps19
    go_wp2
    repeat (go_quiet (fail); try go_wp2)
    go_ret
    exact ⟨by first | rfl | (simp; done) | (simp [*]; done), by repeat (first | exact Drawn0.refl _ | apply Drawn0.step)⟩

/-! ### laws_markBoolS: function 20 -/
def laws_markBoolS.l0 : Nat → List Bool → Int → Int → Option (Int × List Bool)
  | 0, _, _, _ => none
  | k + 1, x0, x1, x5 => if x5 < (x0.length : Int) then (if 0 ≤ x5 then (laws_markBoolS.l0 k (x0.set (x5 : Int).toNat ((Int.tmod x1 3) == 0)) (wrap64 (x1 + 1)) (wrap64 (x5 + 1))) else (none)) else (some (x1, x0))
def laws_markBoolS.f (k : Nat) (l0 : List Bool) (a1 : Int) : Option (Int × List Bool) := laws_markBoolS.l0 k l0 a1 0
theorem laws_markBoolS.mono_l : ∀ k, (∀ y0 y1 y2, LeO (laws_markBoolS.l0 k y0 y1 y2) (laws_markBoolS.l0 (k + 1) y0 y1 y2))
  | 0 => fun _ _ _ r h => by simp [laws_markBoolS.l0] at h
  | k + 1 => by
    have ih0 := laws_markBoolS.mono_l k
    · intro y0 y1 y2
      unfold laws_markBoolS.l0
      repeat' first
      | (with_reducible exact ih0 _ _ _)
      | (with_reducible exact LeO.refl _)
      | (with_reducible exact LeO.none _)
      | (with_reducible refine LeO.ite ?_ ?_)
      | (with_reducible refine LeO.bind ?_ (fun _ => ?_))
      | exact ih0 _ _ _
      | exact LeO.none _
      | refine LeO.ite ?_ ?_
      | refine LeO.bind ?_ (fun _ => ?_)
theorem laws_markBoolS.mono : ∀ a0 a1 k, LeO (laws_markBoolS.f k a0 a1) (laws_markBoolS.f (k + 1) a0 a1) := by
  intro a0 a1 k
  have ih0 := laws_markBoolS.mono_l k
  unfold laws_markBoolS.f
  repeat' first
      | (with_reducible exact ih0 _ _ _)
      | (with_reducible exact LeO.refl _)
      | (with_reducible exact LeO.none _)
      | (with_reducible refine LeO.ite ?_ ?_)
      | (with_reducible refine LeO.bind ?_ (fun _ => ?_))
      | exact ih0 _ _ _
      | exact LeO.none _
      | refine LeO.ite ?_ ?_
      | refine LeO.bind ?_ (fun _ => ?_)
set_option maxHeartbeats 8000000 in
set_option maxRecDepth 100000 in
theorem laws_markBoolS.calls (k : Nat) (P0_ : Nat → Prop) (u9000_ : Value) (l0 : List Bool) (a1 : Int) (r1 : Int) (r2 : List Bool) (w0 w : World) (hB : Below w0.heap.size w0 w) (ho0 : Kd.R Kd.bool 4 w w0.heap.size P0_ u9000_ l0) (h : laws_markBoolS.f k l0 a1 = some (r1, r2)) :
    Calls Try.prog 20 #[u9000_, .int .i64 a1] w fun e w' => e = .returned (.int .i64 r1) ∧ Kd.R Kd.bool 4 w' w0.heap.size (fun k_ => (P0_ k_ ∨ w.heap.size ≤ k_)) u9000_ r2 ∧ Below w0.heap.size w0 w' ∧ Kept w w' (fun k_ => P0_ k_) := by
  have HO0 := Aside0.mk (show Kd.R Kd.bool 4 w w0.heap.size (fun k_ => (P0_ k_ ∨ w.heap.size ≤ k_)) u9000_ l0 from Kd.R_mono ho0 (fun k_ hk => (.inl hk)))
  have HK := Aside0.mk (Kept.refl w (fun k_ => P0_ k_))
  have HW0 := Aside0.mk hB.size
  have HB := Aside0.mk hB
  clear hB
  have H : (laws_markBoolS.l0 k l0 a1 0) = some (r1, r2) := h
  clear h
  have H' := Aside0.mk H
  clear H
  go_enter Try.func20, Try.ntmps20
  go_wp2
  go_loopg [1, 5] k (fun kq v1 v5 w' => ∃ (x0_1 : List Bool) (x1_1 : Int) (x5_1 : Int), v1 = .int .i64 x1_1 ∧ v5 = .int .i64 x5_1 ∧ Aside0 (laws_markBoolS.l0 kq x0_1 x1_1 x5_1 = some (r1, r2)) ∧ Aside0 (kq ≤ k) ∧ Aside0 (Kd.R Kd.bool 4 w' w0.heap.size (fun k_ => (P0_ k_ ∨ w.heap.size ≤ k_)) u9000_ x0_1) ∧ Aside0 (Kept w w' (fun k_ => P0_ k_)) ∧ Aside0 (Below w0.heap.size w0 w'))
  case atStart => exact ⟨(l0), (a1), (0), (by first | rfl | (simp; done) | (simp [*]; done)), (by first | rfl | (simp; done) | (simp [*]; done)), H', ⟨Nat.le_refl _⟩, ⟨by (with_reducible repeat (first | apply Kd.R_alloc | apply Kd.R_drewN | apply Kd.R_drew)); exact HO0.out⟩, ⟨by repeat (first | (with_reducible first | exact HK.out | apply Kept.alloc | apply Kept.drewN | apply Kept.drew) | exact HK.out)⟩, ⟨by repeat (first | (with_reducible first | exact HB.out | apply below_alloc | apply pw_below_drewN | apply below_drew1) | exact HB.out)⟩⟩
  case round =>
    clear H'
    try clear c2
    try clear p2
    obtain ⟨x0_1, x1_1, x5_1, rfl, rfl, HA, HK1, HO_0, HK, HB⟩ := hrel
    cases gk with
    | zero => exact absurd HA.out (by simp [laws_markBoolS.l0])
    | succ k1 =>
      have H := HA.out
      clear HA
      simp only [laws_markBoolS.l0] at H
      by_cases c3 : x5_1 < (x0_1.length : Int)
      · rw [if_pos c3] at H
        have c3b0 : decide (x5_1 < (x0_1.length : Int)) = true := decide_eq_true c3
        clear c3
        by_cases c4 : 0 ≤ x5_1
        · rw [if_pos c4] at H
          have c4b0 : decide (0 ≤ x5_1) = true := decide_eq_true c4
          clear c4
          obtain ⟨y246, hy246⟩ : ∃ y_ : List Bool, y_ = (x0_1.set (x5_1 : Int).toNat ((Int.tmod x1_1 3) == 0)) := ⟨_, rfl⟩
          replace H : (laws_markBoolS.l0 k1 y246 (wrap64 (x1_1 + 1)) (wrap64 (x5_1 + 1))) = some (r1, r2) := by first | (rw [hy246]; with_reducible exact H) | (have H2_ := (Option.bind_some _ _).symm.trans H; rw [hy246]; with_reducible exact H2_) | (have H2_ := (Option.bind_some _ _).symm.trans H; with_reducible exact H2_) | with_reducible exact H | (rw [hy246]; exact H) | exact H
          have Ny246 := Aside0.mk hy246
          clear hy246
          have H' := Aside0.mk H
          clear H
          obtain ⟨Ao6, co6, eo6⟩ := Kd.R_slice HO_0.out
          subst eo6
          have p5 : 0 ≤ (x5_1 : Int) := of_decide_eq_true (by first | (with_reducible assumption) | assumption)
          have q5 : (x5_1 : Int) < ((x0_1.length : Int) : Int) := of_decide_eq_true (by first | (with_reducible assumption) | assumption)
          obtain ⟨go5, co5, eo5, gb5, gl5, cl5, HG5⟩ := Kd.R_form HO_0.out (by omega)
          (first | cases eo5 | (injection eo5 with ea_ en_ ec_; (first | subst ea_ | (injection ea_ with ea_; subst ea_)); subst ec_; clear en_))
          have GB5 := Aside0.mk gb5
          have GG5 := Aside0.mk HG5
          clear gb5 gl5 HG5
          have HMgo5 := Aside0.mk (show (P0_ go5 ∨ w.heap.size ≤ go5) from (HO_0.out.1 _ rfl))
          obtain ⟨hx5_0, hf5_0⟩ := Kd.R_celln false HO_0.out (x5_1 : Int) p5 q5
          replace p5 := eq_true p5
          replace q5 := eq_true q5
          have HP7 := Kd.R_putg HO_0.out (x5_1 : Int) ((Int.tmod x1_1 3) == 0)
          go_wp2_with (first | ((with_reducible refine gate_store (t := 4) (p := 17) rfl ?_); refine store_event (t := 4) (p := 17) (v := ?vo_w8) (w1 := (wr.setCell ⟨go5, (x5_1 : Int).toNat, none⟩ (.bool ((Int.tmod x1_1 3) == 0)))) ?hg ?ho ?hn ?hr ?_; (case ho => rfl); (case hg => rfl); (case hn => rfl); (case hr => first | (go_simp; done) | (go_simp; rfl)); intro w8 hw; have hg : wr.grownBy w8 (some go5) := (by rw [hw]; exact HP7.2); have hp_ : Kd.R Kd.bool 4 w8 w0.heap.size (fun k_ => (P0_ k_ ∨ w.heap.size ≤ k_)) (.slice (some ⟨go5, 0, none⟩) x0_1.length co6) y246 := (by rw [hw, Ny246.out]; exact HP7.1); clear HP7; have n0_ := Aside0.mk (hp_); have n1_ := Aside0.mk ((by rw [hw]; exact below_set (HB.out) GB5.out : Below w0.heap.size w0 w8)); have n2_ := Aside0.mk (Kept.of_grown (S := (fun k_ => P0_ k_)) hg (by repeat (first | (with_reducible first | exact HK.out | apply Kept.alloc | apply Kept.drewN | apply Kept.drew) | exact HK.out)) (fun k_ e_ => (HO_0.out.1 k_ e_))); clear HO_0; clear HB; clear HK; have HO_0 := n0_; have HB := n1_; have HK := n2_; clear n0_ n1_ n2_; clear hg hw hp_))
          go_roundg k1
          case measure => have := HK1.out; omega
          case rel => exact ⟨(y246), (wrap64 (x1_1 + 1)), (wrap64 (x5_1 + 1)), (by first | rfl | (simp; done) | (simp [*]; done)), (by first | rfl | (simp; done) | (simp [*]; done)), H', ⟨by have := HK1.out; omega⟩, ⟨by (with_reducible repeat (first | apply Kd.R_alloc | apply Kd.R_drewN | apply Kd.R_drew)); exact HO_0.out⟩, ⟨by repeat (first | (with_reducible first | exact HK.out | apply Kept.alloc | apply Kept.drewN | apply Kept.drew) | exact HK.out)⟩, ⟨by repeat (first | (with_reducible first | exact HB.out | apply below_alloc | apply pw_below_drewN | apply below_drew1) | exact HB.out)⟩⟩
        · rw [if_neg c4] at H
          exact absurd H (by simp)
      · rw [if_neg c3] at H
        have c3b0 : decide (x5_1 < (x0_1.length : Int)) = false := decide_eq_false c3
        clear c3
        simp only [Option.some.injEq, Prod.mk.injEq] at H
        obtain ⟨rfl, rfl⟩ := H
        obtain ⟨Ao9, co9, eo9⟩ := Kd.R_slice HO_0.out
        subst eo9
        go_wp2
        go_ret
        exact ⟨by first | rfl | (simp [errW_none, errW_some] <;> rfl) | (simp [*, errW_none, errW_some] <;> rfl), by (with_reducible repeat (first | apply Kd.R_alloc | apply Kd.R_drewN | apply Kd.R_drew)); exact HO_0.out, by repeat (first | (with_reducible first | exact HB.out | apply below_alloc | apply pw_below_drewN | apply below_drew1) | exact HB.out), by repeat (first | (with_reducible first | exact HK.out | apply Kept.alloc | apply Kept.drewN | apply Kept.drew) | exact HK.out)⟩

end Go.Proofs.Ytdaikmojalfimaa.QFnExactGraphReach
