-- Written by a program of this session that drives the print of the kit, with contracts of its own beside the printed ones. Lean checks it.
import Derived.Test.YtdaikmojalfimaaQFnExactPathLoopsx4
import Derived.Test.YtdaikmojalfimaaQFnExactPathLoopsx5
import Derived.Test.YtdaikmojalfimaaQFnExactPathLoopsx6
import Derived.Test.YtdaikmojalfimaaQFnExactPathLoopsx7
import Derived.Test.YtdaikmojalfimaaQFnExactPathLoopsx0
import Derived.Test.YtdaikmojalfimaaQFnExactPathLoopsx1
import Derived.Test.YtdaikmojalfimaaQFnExactPathLoopsx2
import Derived.Test.YtdaikmojalfimaaQFnExactPathLoopsx3
import Derived.Test.YtdaikmojalfimaaQFnExactPathLoopsx8
import Derived.Test.YtdaikmojalfimaaQFnExactPathLoopsx9
namespace Go.Proofs.Ytdaikmojalfimaa.QFnExactPathLoops
open Go.RowKit Go.Proofs.YtdaikmojalfimaaW.PrintWords Go.Proofs.YtdaikmojalfimaaW.PrintLast Go.Proofs.YtdaikmojalfimaaW.PrintMore
attribute [local go_sem] max2_int min2_int max_two min_two max_three min_three max_four min_four   -- for this text's walks alone
set_option linter.unusedVariables false
set_option linter.unusedSimpArgs false

/-! ### impl_Graph_from: function 47 -/
def dfsGo (l0 : List S50) (f : List Int → List Int → Option (List Int)) : List Int → List Int → Option (List Int)
  | [], S => some S
  | n :: r, S => if 0 ≤ n then (if n < (l0.length : Int) ∧ l0.length ≤ 1000 ∧ S.length ≤ 1000 then (if S.contains n then dfsGo l0 f r S else (f (rd_T50 l0 n).f0 (n :: S)).bind (dfsGo l0 f r)) else none) else dfsGo l0 f r S
def dfs (l0 : List S50) : Nat → List Int → List Int → Option (List Int)
  | 0, _, _ => none
  | k + 1, l, S => if l.length ≤ 1000 then dfsGo l0 (dfs l0 k) l S else none
def impl_Graph_from.f (k : Nat) (l0 : List S50) (l1 : List (List Int)) (l2 : List Int) (l : List Int) : Option (List Int) := dfs l0 k l []
theorem dfsGo_mono (l0 : List S50) {f g : List Int → List Int → Option (List Int)} (h : ∀ l S, LeO (f l S) (g l S)) : ∀ l S, LeO (dfsGo l0 f l S) (dfsGo l0 g l S)
  | [], _ => LeO.refl _
  | n :: r, S => LeO.ite (LeO.ite (LeO.ite (dfsGo_mono l0 h r S) (LeO.bind (h _ _) (fun _ => dfsGo_mono l0 h r _))) (LeO.refl _)) (dfsGo_mono l0 h r S)
theorem dfs_mono (l0 : List S50) : ∀ k l S, LeO (dfs l0 k l S) (dfs l0 (k + 1) l S)
  | 0, _, _ => fun r h => by simp [dfs] at h
  | k + 1, l, S => LeO.ite (dfsGo_mono l0 (fun l S => dfs_mono l0 k l S) l S) (LeO.refl _)
theorem impl_Graph_from.mono : ∀ a0 a1 a2 a3 k, LeO (impl_Graph_from.f k a0 a1 a2 a3) (impl_Graph_from.f (k + 1) a0 a1 a2 a3) := fun a0 _ _ a3 k => dfs_mono a0 k a3 []
theorem plainElem_bool_inv {H : Type} {P : Program} {e : TypeId} (he : P.underlying e = some .bool) {v : Value} {z : DataW H × List MemPlace} (h : plainElem P e v = some z) : ∃ x, v = .bool x ∧ z = (.lit (.bool x), []) := by
  unfold plainElem at h
  rw [he] at h
  cases v <;> simp at h
  exact ⟨_, rfl, h.symm⟩
theorem wpList_lookup_own_bool {H : Type} {P : Program} (w : World) {ops : Array Oper} {rest : List Oper} {o : Oper} {a : Act} {Q : Exit → Act → World → Prop}
    (hg : o.guard = none) (m x : Operand) (t : TypeId) (hop : o.op = Op.lookup t m x false)
    (k e : TypeId) (K : Maps.Keyed P k) (ht : P.underlying t = some (.map k e)) (he : P.underlying e = some .bool) (hz : (zeroValue e).run P w = .ok (.bool false) w) (b n : Nat) (D : DataW H)
    (hm : a.eval m = .map (some b)) (hown : w.ownsMap P k (plainElem P e) b n D) (key : Value) (kl : Lit) (hx : a.eval x = key) (hkey : keyOf P k key = some kl)
    (hK : ∀ c : Bool, D.atKey kl (.lit (.bool false)) = .lit (.bool c) → wpList P ops Q rest (a.put o.dst (.bool c)) w) :
    wpList P ops Q (o :: rest) a w := by
  refine wpList_plain hg fun K' hK' => ?_
  obtain ⟨v, ps, hrun, hv⟩ := hown.lookup K ht hz (plainElem_bool he false) hkey
  obtain ⟨c, rfl, hc⟩ := plainElem_bool_inv he hv
  simp only [Prod.mk.injEq] at hc
  unfold Oper.wp
  simp [execOp, hop, hm, hx, hrun, Result.andThen]
  exact hK' _ _ (hK c hc.1)
def MS (W : World) (bm : Nat) (S : List Int) : Prop :=
  ∃ (n : Nat) (D : DataW Unit), W.ownsMap Try.prog 3 (plainElem Try.prog 4) bm n D ∧ n ≤ S.length ∧ Maps.IsMap D ∧ ∀ o, (Lit.int .i64 o).wf = true → D.atKey (.int .i64 o) (.lit (.bool false)) = .lit (.bool (S.contains o))
theorem ms_made (W : World) : MS (W.alloc (.map #[] 0)) W.heap.size [] :=
  ⟨0, .map [], World.ownsMap_made W _ _ _, Nat.le_refl _, Maps.isMap_empty, fun o _ => rfl⟩
theorem MS.lt {W : World} {bm : Nat} {S : List Int} (h : MS W bm S) : bm < W.heap.size := by
  obtain ⟨n, D, h, _⟩ := h
  exact h.lt
theorem MS.ne {W : World} {bm : Nat} {S : List Int} (h : MS W bm S) {g t : Nat} {cs : Array Value} (hg : W.heap[g]? = some (.cells cs t (0, 0))) : g ≠ bm := by
  obtain ⟨n, D, ⟨es, clock, hb, _⟩, _⟩ := h
  rintro rfl
  rw [hb] at hg
  cases hg
theorem ms_below {W W' : World} {bm : Nat} {S : List Int} (h : MS W bm S) (hb : Below W.heap.size W W') : MS W' bm S := by
  obtain ⟨n, D, h, h2⟩ := h
  exact ⟨n, D, h.kept (grown_of_below hb none) (by simp), h2⟩
theorem ms_set {W : World} {bm g j : Nat} {v : Value} {S : List Int} (h : MS W bm S) (hne : g ≠ bm) : MS (W.setCell ⟨g, j, none⟩ v) bm S := by
  obtain ⟨n, D, ⟨es, clock, hb, h1⟩, h2⟩ := h
  exact ⟨n, D, ⟨es, clock, (Below.heap_setCell W ⟨g, j, none⟩ v bm (fun e => hne e.symm)).trans hb, h1⟩, h2⟩
theorem ms_put {W : World} {bm n : Nat} {S : List Int} {D : DataW Unit} (x : Int) (hn : n ≤ S.length) (hm : Maps.IsMap D) (hat : ∀ o, (Lit.int .i64 o).wf = true → D.atKey (.int .i64 o) (.lit (.bool false)) = .lit (.bool (S.contains o)))
    (hown : W.ownsMap Try.prog 3 (plainElem Try.prog 4) bm (n + 1) (D.put (.int .i64 x) (.lit (.bool true)))) : MS W bm (x :: S) := by
  refine ⟨n + 1, _, hown, Nat.succ_le_succ hn, hm.put _ _, fun o ho => ?_⟩
  by_cases g : x = o
  · subst g
    rw [Maps.atKey_put_same hm (by trivial)]
    simp
  · rw [Maps.atKey_put_other (fun h => g (by injection h with _ h; exact h.symm)), hat o ho]
    have g2 : (o == x) = false := beq_eq_false_iff_ne.mpr (fun e => g e.symm)
    rw [List.contains_cons, g2, Bool.false_or]
theorem zero4 (w : World) : (zeroValue 4).run Try.prog w = .ok (.bool false) w := by rfl
theorem map_event {ops : Array Oper} {rest : List Oper} {o : Oper} {a : Act} {Q : Exit → Act → World → Prop} {W : World} (hgd : o.guard = none) (ho : o.op = .makeMap 63 none)
    (h : ∀ g, g = W.heap.size → ∀ w1, MS w1 g [] → W.grownBy w1 none → Below W.heap.size W w1 → w1.heap.size = W.heap.size + 1 → wpList Try.prog ops Q rest (a.put o.dst (.map (some g))) w1) : wpList Try.prog ops Q (o :: rest) a W :=
  Kd.event_run hgd (v := .map (some W.heap.size)) (w1 := W.alloc (.map #[] 0)) (by unfold execOp; rw [ho]; rfl) (h _ rfl _ (ms_made W) (grown_of_below (below_alloc (Below.refl _ _) _) none) (below_alloc (Below.refl _ _) _) (World.size_alloc _ _))
structure FI (w0 W : World) (b3 b5 b7 b8 bm : Nat) (g0v g1v g2v : Value) (S : List Int) : Prop where
  below : Below w0.heap.size w0 W
  k3 : W.heap[b3]? = some (.cells #[g0v, g1v, g2v] 26 (0, 0))
  k5 : W.heap[b5]? = some (.cells #[.int .i64 (-1)] 3 (0, 0))
  k7 : W.heap[b7]? = some (.cells #[.map (some bm)] 63 (0, 0))
  k8 : W.heap[b8]? = some (.cells #[.func (.func 59) #[] #[.pointer (some ⟨b5, 0, none⟩), .pointer (some ⟨b7, 0, none⟩), .pointer (some ⟨b8, 0, none⟩), .pointer (some ⟨b3, 0, none⟩)]] 68 (0, 0))
  ms : MS W bm S
  nb : w0.heap.size ≤ bm
theorem fi_drew {w0 W : World} {b3 b5 b7 b8 bm : Nat} {g0v g1v g2v : Value} {S : List Int} (h : FI w0 W b3 b5 b7 b8 bm g0v g1v g2v S) : FI w0 W.drew b3 b5 b7 b8 bm g0v g1v g2v S :=
  ⟨below_drew1 h.below, h.k3, h.k5, h.k7, h.k8, ms_below h.ms (below_drew1 (Below.refl _ _)), h.nb⟩
theorem fi_put {w0 W W1 : World} {b3 b5 b7 b8 bm : Nat} {g0v g1v g2v : Value} {S S' : List Int} (h : FI w0 W b3 b5 b7 b8 bm g0v g1v g2v S) (hg : W.grownBy W1 (some bm)) (hm : MS W1 bm S') : FI w0 W1 b3 b5 b7 b8 bm g0v g1v g2v S' :=
  ⟨pw_below_grown h.below (some bm) h.below.size hg (fun k hk => by cases hk; exact h.nb), blk_grown h.k3 hg (fun e => h.ms.ne h.k3 (Option.some.inj e)), blk_grown h.k5 hg (fun e => h.ms.ne h.k5 (Option.some.inj e)), blk_grown h.k7 hg (fun e => h.ms.ne h.k7 (Option.some.inj e)), blk_grown h.k8 hg (fun e => h.ms.ne h.k8 (Option.some.inj e)), hm, h.nb⟩
theorem small_wf {n : Int} (h0 : 0 ≤ n) (h1 : n < 1000) : (Lit.int .i64 n).wf = true := by
  simp [Lit.wf, IntKind.min, IntKind.max, IntKind.signed, IntKind.bits]
  omega

set_option maxHeartbeats 8000000 in
set_option maxRecDepth 100000 in
theorem from_dfs (A0_0 : Option Addr) (c0_0 : Nat) (l0_0 : List S50) (g1v g2v : Value) (w0 : World) (b3 b5 b7 b8 bm : Nat) (hr0 : Kd.C k50 w0 A0_0 l0_0.length l0_0) :
    ∀ (k : Nat) (A : Option Addr) (c : Nat) (l S S' : List Int) (W : World), Kd.C (Kd.int .i64) w0 A l.length l → dfs l0_0 k l S = some S' → FI w0 W b3 b5 b7 b8 bm (.slice A0_0 l0_0.length c0_0) g1v g2v S →
    Calls Try.prog 59 #[.slice A l.length c, .pointer (some ⟨b5, 0, none⟩), .pointer (some ⟨b7, 0, none⟩), .pointer (some ⟨b8, 0, none⟩), .pointer (some ⟨b3, 0, none⟩)] W fun e w' => e = .returned (.tuple #[]) ∧ FI w0 w' b3 b5 b7 b8 bm (.slice A0_0 l0_0.length c0_0) g1v g2v S' := by
  intro k
  induction k with
  | zero => intro A c l S S' W hl h; simp [dfs] at h
  | succ k ih =>
    intro A c l S S' W hl h hfi
    rw [dfs] at h
    by_cases hz : l.length ≤ 1000
    · rw [if_pos hz] at h
      have IH := Aside0.mk ih
      have HC0 := Aside0.mk hr0
      have HL := Aside0.mk hl
      have HZ := Aside0.mk hz
      have GO := Aside0.mk h
      have FI0 := Aside0.mk hfi
      clear ih hr0 hl hz h hfi
      go_enter Try.func59, Try.ntmps59
      go_wp2
      go_loopg [10] l.length (fun gg v10 wr => ∃ (z : Int) (i : Nat) (rest S1 : List Int), rest.length ≤ gg ∧ v10 = .int .i64 z ∧ Aside0 (z = (i : Int) ∧ l.drop i = rest) ∧ Aside0 (FI w0 wr b3 b5 b7 b8 bm (.slice A0_0 l0_0.length c0_0) g1v g2v S1) ∧ Aside0 (dfsGo l0_0 (dfs l0_0 k) rest S1 = some S'))
      case atStart => exact ⟨0, 0, _, _, Nat.le_refl _, rfl, ⟨rfl, rfl⟩, FI0, GO⟩
      case round =>
        clear FI0 GO
        obtain ⟨z, i, rest, S1, hg, rfl, HI, HF, HG⟩ := hrel
        cases rest with
        | nil =>
          have hl_ : l.length ≤ i := by
            have h_ := congrArg List.length HI.out.2
            rw [List.length_drop] at h_
            have : ([] : List Int).length = 0 := rfl
            omega
          have cz : decide (z < (l.length : Int)) = false := decide_eq_false (by have := HI.out.1; omega)
          clear hl_
          obtain rfl : S1 = S' := Option.some.inj HG.out
          go_wp2
          go_end0
          exact ⟨rfl, HF.out⟩
        | cons n rest' =>
          have hl_ : i < l.length := by
            have h_ := congrArg List.length HI.out.2
            rw [List.length_drop, List.length_cons] at h_
            omega
          have cz : decide (z < (l.length : Int)) = true := decide_eq_true (by have := HI.out.1; omega)
          have z0 : 0 ≤ z := by have := HI.out.1; omega
          have z1 : z < (l.length : Int) := by have := HI.out.1; omega
          obtain ⟨ar, cR, eA, hcl, hK, hcell⟩ := Kd.C_get HL.out (0 : Int) z z0 z1
          subst eA
          have hrd : l.getD z.toNat 0 = n := by
            have hi_ := HI.out
            have e_ : z.toNat = i := by omega
            have h_ : l[i]? = some n := by
              have h2 := congrArg (fun l : List Int => l[0]?) hi_.2
              simpa using h2
            rw [e_, List.getD, h_]
            rfl
          have hc0 : w0.cell? (ar.add z.toNat) = some (.int .i64 n) := by
            have h_ := hcell 0 (.int .i64 n) (by rw [show cR = [.int .i64 n] from by rw [← hrd]; exact hK]; rfl)
            have h2_ : w0.cell? (ar.add (z.toNat * 1 + 0)) = some (.int .i64 n) := h_
            simpa using h2_
          clear hcell hK hcl hrd
          replace hc0 := (HF.out.below.cell (World.block_lt_of_cell? w0 _ hc0)).trans hc0
          have dz0 : decide (0 ≤ z) = true := decide_eq_true z0
          replace z0 := eq_true z0
          replace z1 := eq_true z1
          have HJ := Aside0.mk (show wrap64 (z + 1) = z + 1 ∧ z + 1 = ((i + 1 : Nat) : Int) ∧ l.drop (i + 1) = rest' from ⟨by have := HI.out; have := HZ.out; unfold wrap64; omega, by have := HI.out; omega, by have h_ := congrArg List.tail HI.out.2; rw [List.tail_drop] at h_; exact h_⟩)
          have HR := Aside0.mk (show rest'.length < gk from by simp only [List.length_cons] at hg; omega)
          clear hl_ hg HI
          by_cases n0 : 0 ≤ n
          · have dn0 : decide (0 ≤ n) = true := decide_eq_true n0
            have HG1 := HG.out
            rw [dfsGo, if_pos n0] at HG1
            by_cases hb : n < (l0_0.length : Int) ∧ l0_0.length ≤ 1000 ∧ S1.length ≤ 1000
            · rw [if_pos hb] at HG1
              have HW := Aside0.mk (small_wf n0 (by omega : n < 1000))
              have NM : (n != -1) = true := bne_iff_ne.mpr (by omega)
              have e5 := (blk_cell HF.out.k5 0).trans (show _ = some (Value.int .i64 (-1)) from rfl)
              have e7 := (blk_cell HF.out.k7 0).trans (show _ = some (Value.map (some bm)) from rfl)
              cases hs : S1.contains n with
              | true =>
                rw [if_pos hs] at HG1
                have HG2 := Aside0.mk HG1
                have HS := Aside0.mk hs
                clear HG1 hs HG
                go_wp2_with (at_lookup; (try (refine gate_guard (by rfl) ?_; dsimp only)); obtain ⟨n_, D_, hown_, hn_, hm_, hat_⟩ := HF.out.ms; refine wpList_lookup_own_bool _ rfl _ _ 63 rfl 3 4 (Maps.int_keyed Try.underlying3) Try.underlying63 Try.underlying4 (zero4 _) bm n_ D_ rfl hown_ _ _ rfl (Maps.keyOf_int_mk Try.underlying3 HW.out) ?_; intro c_ hc_; have e_ : c_ = true := (by have h1_ := (hat_ _ HW.out).symm.trans hc_; rw [HS.out] at h1_; injection h1_ with h1_; injection h1_ with h1_; exact h1_.symm); subst e_; clear hown_ hn_ hm_ hat_ hc_)
                go_roundg rest'.length
                case measure => exact HR.out
                case rel => exact ⟨z + 1, i + 1, rest', S1, Nat.le_refl _, congrArg (Value.int .i64) HJ.out.1, ⟨HJ.out.2.1, HJ.out.2.2⟩, HF, HG2⟩
              | false =>
                rw [if_neg (by rw [hs]; decide)] at HG1
                obtain ⟨S2, HD, HG2⟩ := Option.bind_eq_some_iff.1 HG1
                obtain ⟨ad, Ar, cr, A9, c9, e0, hx0, hx1, hlr, hir, _, _⟩ := at_T50 HC0.out n n0 hb.1
                subst e0
                have hcall : ∀ W, FI w0 W b3 b5 b7 b8 bm (.slice (some ad) l0_0.length c0_0) g1v g2v (n :: S1) → _ := fun W hW => IH.out Ar cr (rd_T50 l0_0 n).f0 (n :: S1) S2 W hir HD hW
                have HG2 := Aside0.mk HG2
                have HS := Aside0.mk hs
                have HX0 := Aside0.mk hx0
                have HB := Aside0.mk hb
                have dn1 : decide (n < (l0_0.length : Int)) = true := decide_eq_true hb.1
                have q1 := eq_true hb.1
                have q0 := eq_true n0
                have N0 := Aside0.mk n0
                clear HG1 hs HG hx0 hx1 hlr hir HD hb
                go_wp2_with (first
                  | (at_lookup; (try (refine gate_guard (by rfl) ?_; dsimp only)); obtain ⟨n_, D_, hown_, hn_, hm_, hat_⟩ := HF.out.ms; refine wpList_lookup_own_bool _ rfl _ _ 63 rfl 3 4 (Maps.int_keyed Try.underlying3) Try.underlying63 Try.underlying4 (zero4 _) bm n_ D_ rfl hown_ _ _ rfl (Maps.keyOf_int_mk Try.underlying3 HW.out) ?_; intro c_ hc_; have e_ : c_ = false := (by have h1_ := (hat_ _ HW.out).symm.trans hc_; rw [HS.out] at h1_; injection h1_ with h1_; injection h1_ with h1_; exact h1_.symm); subst e_; clear hown_ hn_ hm_ hat_ hc_)
                  | (at_mapUpdate; obtain ⟨n_, D_, hown_, hn_, hm_, hat_⟩ := HF.out.ms; refine wpList_mapUpdate_own _ rfl _ _ _ 63 rfl 3 4 (Maps.int_keyed Try.underlying3) Try.underlying63 _ bm n_ D_ rfl hown_ ?hlt_ _ _ (.int .i64 n) rfl rfl (Maps.keyOf_int_mk Try.underlying3 HW.out) (.lit (.bool true)) [] (plainElem_bool Try.underlying4 true) ?_; (case hlt_ => (have h1_ := HB.out.2.2; have h4_ : maxLen = 9223372036854775807 := rfl; omega)); intro wu_ hown1_ hgrow_; have F2 := Aside0.mk (fi_put HF.out hgrow_ (ms_put n hn_ hm_ hat_ hown1_)); clear hown_ hn_ hm_ hat_ hown1_ hgrow_ HF e5 e7; have e8 := (blk_cell F2.out.k8 0).trans (show _ = some (Value.func (.func 59) #[] #[.pointer (some ⟨b5, 0, none⟩), .pointer (some ⟨b7, 0, none⟩), .pointer (some ⟨b8, 0, none⟩), .pointer (some ⟨b3, 0, none⟩)]) from rfl); have e3 := (blk_cell F2.out.k3 0).trans (show _ = some (Value.slice (some ad) l0_0.length c0_0) from rfl); have ex0 := (F2.out.below.cell (World.block_lt_of_cell? w0 _ HX0.out)).trans HX0.out))
                go_region_with (go_at_call 59; refine (hcall _ (fi_drew F2.out)).mono ?_; rintro e w9 ⟨rfl, hinv⟩; have F3 := Aside0.mk hinv; clear hcall hinv)
                all_goals
                  go_wp2
                  go_roundg rest'.length
                  case measure => exact HR.out
                  case rel => exact ⟨z + 1, i + 1, rest', S2, Nat.le_refl _, congrArg (Value.int .i64) HJ.out.1, ⟨HJ.out.2.1, HJ.out.2.2⟩, F3, HG2⟩
            · rw [if_neg hb] at HG1
              cases HG1
          · have dn0 : decide (0 ≤ n) = false := decide_eq_false n0
            have HG1 := HG.out
            rw [dfsGo, if_neg n0] at HG1
            have HG2 := Aside0.mk HG1
            clear HG1 HG n0
            go_wp2
            go_roundg rest'.length
            case measure => exact HR.out
            case rel => exact ⟨z + 1, i + 1, rest', S1, Nat.le_refl _, congrArg (Value.int .i64) HJ.out.1, ⟨HJ.out.2.1, HJ.out.2.2⟩, HF, HG2⟩
    · rw [if_neg hz] at h
      cases h

theorem run_store_fn (P : Program) (w : World) (a : Addr) (m : Mode) (f : Fn) (x y : Array Value) : (store a (.func f x y) m).run P w = stored P w a (.func f x y) m := run_store P w a _ m rfl
attribute [local go_sem] run_store_fn
theorem from_start {w wm : World} {b3 b5 bm : Nat} {g0v g1v g2v : Value} (hb : Below w.heap.size w wm) (h3 : wm.heap[b3]? = some (.cells #[g0v, g1v, g2v] 26 (0, 0))) (h5 : wm.heap[b5]? = some (.cells #[.int .i64 (-1)] 3 (0, 0))) (hm : MS wm bm []) (hn : w.heap.size ≤ bm) :
    FI w ((wm.alloc (.cells #[.map (some bm)] 63)).alloc (.cells #[.func (.func 59) #[] #[.pointer (some ⟨b5, 0, none⟩), .pointer (some ⟨wm.heap.size, 0, none⟩), .pointer (some ⟨wm.heap.size + 1, 0, none⟩), .pointer (some ⟨b3, 0, none⟩)]] 68)) b3 b5 wm.heap.size (wm.heap.size + 1) bm g0v g1v g2v [] := by
  refine ⟨below_alloc (below_alloc hb _) _, blk_alloc (blk_alloc h3 _) _, blk_alloc (blk_alloc h5 _) _, blk_alloc (blk_new wm _) _, ?_, ms_below hm (below_alloc (below_alloc (Below.refl _ _) _) _), hn⟩
  have h := blk_new (wm.alloc (.cells #[.map (some bm)] 63)) (.cells #[.func (.func 59) #[] #[.pointer (some ⟨b5, 0, none⟩), .pointer (some ⟨wm.heap.size, 0, none⟩), .pointer (some ⟨wm.heap.size + 1, 0, none⟩), .pointer (some ⟨b3, 0, none⟩)]] 68)
  rwa [World.size_alloc] at h
set_option maxHeartbeats 8000000 in
set_option maxRecDepth 100000 in
theorem impl_Graph_from.calls (k : Nat) (A0_0 : Option Addr) (c0_0 : Nat) (l0_0 : List S50) (A0_1 : Option Addr) (c0_1 : Nat) (l0_1 : List (List Int)) (A0_2 : Option Addr) (c0_2 : Nat) (l0_2 : List Int) (A1 : Option Addr) (c1 : Nat) (l1 : List Int) (S : List Int) (w : World) (hr0_0 : Kd.C k50 w A0_0 l0_0.length l0_0) (hr1 : Kd.C (Kd.int .i64) w A1 l1.length l1) (h : impl_Graph_from.f k l0_0 l0_1 l0_2 l1 = some S) :
    Calls Try.prog 47 #[.agg #[.slice A0_0 l0_0.length c0_0, .slice A0_1 l0_1.length c0_1, .slice A0_2 l0_2.length c0_2], .slice A1 l1.length c1, .int .i64 (-1)] w fun e w' => ∃ bm, e = .returned (.map (some bm)) ∧ MS w' bm S ∧ w.heap.size ≤ bm ∧ Below w.heap.size w w' := by
  have H := Aside0.mk h
  have HC0 := Aside0.mk hr0_0
  have HC1 := Aside0.mk hr1
  clear h hr0_0 hr1
  go_enter Try.func47, Try.ntmps47
  go_wp2_with (first
    | ((with_reducible refine gate_dst (N := 9) rfl ?_); refine map_event rfl rfl ?_; intro bm hg wm hmap hgr hb hsz; have MM := Aside0.mk hmap; have K3 := Aside0.mk (blk_below (blk_alloc (blk_new w (.cells #[.slice A0_0 l0_0.length c0_0, .slice A0_1 l0_1.length c0_1, .slice A0_2 l0_2.length c0_2] 26)) (.cells #[.int .i64 (-1)] 3)) hb); have K5_ := blk_below (blk_new (w.alloc (.cells #[.slice A0_0 l0_0.length c0_0, .slice A0_1 l0_1.length c0_1, .slice A0_2 l0_2.length c0_2] 26)) (.cells #[.int .i64 (-1)] 3)) hb; rw [World.size_alloc] at K5_; have K5 := Aside0.mk K5_; rw [World.size_alloc, World.size_alloc] at hg; have HG := Aside0.mk hg; have BM := Aside0.mk (below_step (below_alloc (below_alloc (Below.refl _ _) _) _ : Below w.heap.size w _) hb); clear hmap hgr hb hsz hg K5_)
    | (go_at_call 59; refine (from_dfs A0_0 c0_0 l0_0 (.slice A0_1 l0_1.length c0_1) (.slice A0_2 l0_2.length c0_2) w w.heap.size (w.heap.size + 1) wm.heap.size (wm.heap.size + 1) bm HC0.out k A1 c1 l1 [] S _ HC1.out H.out (from_start BM.out K3.out K5.out MM.out (by have := HG.out; omega))).mono ?_; rintro e w9 ⟨rfl, hinv⟩; have F9 := Aside0.mk hinv; have e7 := (blk_cell hinv.k7 0).trans (show _ = some (Value.map (some bm)) from rfl); clear hinv))
  go_ret
  exact ⟨bm, rfl, F9.out.ms, F9.out.nb, F9.out.below⟩

/-! ### impl_PathLoops: function 23 -/
def impl_PathLoops.go (l0 : List S50) (k : Nat) : Nat → Int → List Int → Option (List Int)
  | 0, _, out => some out
  | d + 1, z, out => (dfs l0 k (rd_T50 l0 z).f0 []).bind fun S => impl_PathLoops.go l0 k d (z + 1) (if S.contains z = true then out ++ [z] else out)
def impl_PathLoops.f (k : Nat) (l0 : List S50) (l1 : List (List Int)) (l2 : List Int) : Option (List Int) := (impl_GraphOk.f k l0 l1 l2).bind fun t => if t = true then (if l0.length ≤ 1000 then impl_PathLoops.go l0 k l0.length 0 [] else none) else some []
theorem impl_PathLoops.mono_go (l0 : List S50) (k : Nat) : ∀ d z out, LeO (impl_PathLoops.go l0 k d z out) (impl_PathLoops.go l0 (k + 1) d z out)
  | 0, _, _ => LeO.refl _
  | d + 1, z, out => LeO.bind (dfs_mono l0 k _ _) (fun _ => impl_PathLoops.mono_go l0 k d _ _)
theorem impl_PathLoops.mono : ∀ a0 a1 a2 k, LeO (impl_PathLoops.f k a0 a1 a2) (impl_PathLoops.f (k + 1) a0 a1 a2) := fun a0 a1 a2 k => LeO.bind (impl_GraphOk.mono _ _ _ _) (fun _ => LeO.ite (LeO.ite (impl_PathLoops.mono_go a0 k _ _ _) (LeO.refl _)) (LeO.refl _))
set_option maxHeartbeats 8000000 in
set_option maxRecDepth 100000 in
theorem impl_PathLoops.calls (k : Nat) (A0_0 : Option Addr) (c0_0 : Nat) (l0_0 : List (S50)) (A0_1 : Option Addr) (c0_1 : Nat) (l0_1 : List (List Int)) (A0_2 : Option Addr) (c0_2 : Nat) (l0_2 : List Int) (r : List Int) (w : World) (hr0_0 : Kd.C k50 w A0_0 l0_0.length l0_0) (hc0_0 : l0_0.length ≤ c0_0) (hr0_1 : Kd.C (Kd.slice 3 (Kd.int .i64)) w A0_1 l0_1.length l0_1) (hc0_1 : l0_1.length ≤ c0_1) (hr0_2 : Kd.C (Kd.int .i64) w A0_2 l0_2.length l0_2) (hc0_2 : l0_2.length ≤ c0_2) (h : impl_PathLoops.f k l0_0 l0_1 l0_2 = some r) :
    Calls Try.prog 23 #[.agg #[.slice A0_0 l0_0.length c0_0, .slice A0_1 l0_1.length c0_1, .slice A0_2 l0_2.length c0_2]] w fun e w' => ∃ v0_ : Value, e = .returned (v0_) ∧ Kd.R (Kd.int .i64) 3 w' w.heap.size (fun _ => True) v0_ r ∧ Below w.heap.size w w' := by
  obtain ⟨g, Fg, h⟩ := Option.bind_eq_some_iff.1 h
  obtain ⟨w1, hw1⟩ : ∃ w1, w1 = w.alloc (.cells #[.slice A0_0 l0_0.length c0_0, .slice A0_1 l0_1.length c0_1, .slice A0_2 l0_2.length c0_2] 26) := ⟨_, rfl⟩
  have hs1 : w1.heap.size = w.heap.size + 1 := by rw [hw1]; simp
  have hbx : w1.heap[w.heap.size]? = some (.cells #[.slice A0_0 l0_0.length c0_0, .slice A0_1 l0_1.length c0_1, .slice A0_2 l0_2.length c0_2] 26 (0, 0)) := by rw [hw1]; exact blk_new w _
  have hb1 : Below w.heap.size w w1 := by rw [hw1]; exact below_alloc (Below.refl _ _) _
  have C0 := Kd.C_below hr0_0 hb1
  have C1 := Kd.C_below hr0_1 hb1
  have C2 := Kd.C_below hr0_2 hb1
  have cg := impl_GraphOk.calls k A0_0 c0_0 l0_0 A0_1 c0_1 l0_1 A0_2 c0_2 l0_2 g w1 C0 hc0_0 C1 hc0_1 C2 hc0_2 Fg
  have par : ∀ {W : World} (j : Nat), Below w1.heap.size w1 W → W.cell? ⟨w.heap.size, j, none⟩ = (#[.slice A0_0 l0_0.length c0_0, .slice A0_1 l0_1.length c0_1, .slice A0_2 l0_2.length c0_2] : Array Value)[j]? := fun j hb => (hb.cell (p := ⟨w.heap.size, j, none⟩) (by show w.heap.size < _; omega)).trans (blk_cell hbx j)
  have PAR := Aside0.mk @par
  have B1 := Aside0.mk hb1
  have HS1 := Aside0.mk hs1
  have HC0 := Aside0.mk C0
  clear hr0_0 hr0_1 hr0_2 hc0_0 hc0_1 hc0_2 C0 C1 C2 Fg par hb1 hbx hs1
  cases g with
  | false =>
    rw [if_neg (by decide)] at h
    obtain rfl := Option.some.inj h
    go_enter Try.func23, Try.ntmps23
    go_wp2_with (go_at_call 16; rw [← hw1]; refine cg.mono ?_; rintro e w2 ⟨rfl, hb2⟩; have B2 := Aside0.mk hb2; clear cg hb2)
    go_ret
    exact ⟨_, rfl, Kd.R_nil _ _ _ _ _, below_step B1.out B2.out⟩
  | true =>
    rw [if_pos rfl] at h
    by_cases hz : l0_0.length ≤ 1000
    · rw [if_pos hz] at h
      have HZ := Aside0.mk hz
      have GO := Aside0.mk h
      clear hz h
      go_enter Try.func23, Try.ntmps23
      go_wp2_with (go_at_call 16; rw [← hw1]; refine cg.mono ?_; rintro e w2 ⟨rfl, hb2⟩; have B2 := Aside0.mk hb2; have q0 := (PAR.out 0 hb2).trans (show _ = some (Value.slice A0_0 l0_0.length c0_0) from rfl); clear cg hb2)
      go_loopg [3, 12] l0_0.length (fun gg v3 v12 wr => ∃ (z : Int) (i d : Nat) (out : List Int), d ≤ gg ∧ v12 = .int .i64 z ∧ Aside0 ((i + d = l0_0.length ∧ z = (i : Int)) ∧ out.length ≤ i) ∧ Aside0 (Below w1.heap.size w1 wr) ∧ Aside0 (Kd.R (Kd.int .i64) 3 wr w1.heap.size (fun _ => True) v3 out) ∧ Aside0 (impl_PathLoops.go l0_0 k d z out = some r))
      case atStart => exact ⟨0, 0, l0_0.length, [], Nat.le_refl _, rfl, ⟨⟨by simp, rfl⟩, Nat.le_refl _⟩, B2, ⟨Kd.R_nil _ _ _ _ _⟩, GO⟩
      case round =>
        clear GO B2 q0
        obtain ⟨z, i, d, out, hg, rfl, HI, HB, RO, HG⟩ := hrel
        obtain ⟨Ao, co, eo⟩ := Kd.R_slice RO.out
        subst eo
        cases d with
        | zero =>
          have cz : decide (z < (l0_0.length : Int)) = false := decide_eq_false (by have := HI.out; omega)
          obtain rfl : out = r := Option.some.inj HG.out
          go_wp2
          go_ret
          exact ⟨_, rfl, Kd.R_lower RO.out B1.out.size, below_step B1.out HB.out⟩
        | succ d =>
          have cz : decide (z < (l0_0.length : Int)) = true := decide_eq_true (by have := HI.out; omega)
          have z0 : 0 ≤ z := by have := HI.out; omega
          have z1 : z < (l0_0.length : Int) := by have := HI.out; omega
          have dz0 : decide (0 ≤ z) = true := decide_eq_true z0
          have HW := Aside0.mk (small_wf z0 (by have := HZ.out; omega : z < 1000))
          obtain ⟨S, FD, HG2⟩ := Option.bind_eq_some_iff.1 (show ((dfs l0_0 k (rd_T50 l0_0 z).f0 []).bind fun S => impl_PathLoops.go l0_0 k d (z + 1) (if S.contains z = true then out ++ [z] else out)) = some r from HG.out)
          obtain ⟨ad, Ar, cr, A9, c9, e0, hx0, hx1, hlr, hir, _, _⟩ := at_T50 HC0.out z z0 z1
          subst e0
          replace hx0 := (HB.out.cell (World.block_lt_of_cell? w1 _ hx0)).trans hx0
          replace hx1 := (HB.out.cell (World.block_lt_of_cell? w1 _ hx1)).trans hx1
          have q0 := (PAR.out 0 HB.out).trans (show _ = some (Value.slice (some ad) l0_0.length c0_0) from rfl)
          obtain ⟨w5, hw5⟩ : ∃ w5, w5 = wr.alloc (.cells #[.slice Ar (rd_T50 l0_0 z).f0.length cr, .slice A9 (rd_T50 l0_0 z).f1.length c9] 50) := ⟨_, rfl⟩
          have B5 := Aside0.mk (show Below w1.heap.size w1 w5 from by rw [hw5]; exact below_alloc HB.out _)
          have R5 := Aside0.mk (show Kd.R (Kd.int .i64) 3 w5 w1.heap.size (fun _ => True) (.slice Ao out.length co) out from by rw [hw5]; exact Kd.R_alloc RO.out _)
          have FDA := Aside0.mk FD
          have HIR := Aside0.mk hir
          have HG2 := Aside0.mk HG2
          have LO := Aside0.mk (show (out.length + 1) * 8 ≤ 140737488355328 by have := HI.out; have := HZ.out; omega)
          have y0 := (PAR.out 0 B5.out).trans (show _ = some (Value.slice (some ad) l0_0.length c0_0) from rfl)
          have y1 := (PAR.out 1 B5.out).trans (show _ = some (Value.slice A0_1 l0_1.length c0_1) from rfl)
          have y2 := (PAR.out 2 B5.out).trans (show _ = some (Value.slice A0_2 l0_2.length c0_2) from rfl)
          replace z0 := eq_true z0
          replace z1 := eq_true z1
          rw [hw5] at y0 y1 y2
          clear HG FD hlr hir HB RO
          have hcall : ∀ W, Below w1.heap.size w1 W → _ := fun W hW => impl_Graph_from.calls k (some ad) c0_0 l0_0 A0_1 c0_1 l0_1 A0_2 c0_2 l0_2 Ar cr (rd_T50 l0_0 z).f0 S W (Kd.C_below HC0.out hW) (Kd.C_below HIR.out hW) FDA.out
          cases hs : S.contains z with
          | true =>
            have HS := Aside0.mk hs
            have HG3 := Aside0.mk (show impl_PathLoops.go l0_0 k d (z + 1) (out ++ [z]) = some r from by have h_ := HG2.out; rw [if_pos hs] at h_; exact h_)
            clear HG2 hs
            go_wp2_with (first
              | (go_at_call 47; rw [← hw5]; refine (hcall w5 B5.out).mono ?_; rintro e w9 ⟨bm, rfl, hms, hnb, hb9⟩; have MM := Aside0.mk hms; have HB := Aside0.mk (below_step B5.out hb9); have HO := Aside0.mk (Kd.R_below R5.out hb9); clear hms hnb hb9 hcall)
              | (at_lookup; (try (refine gate_guard (by rfl) ?_; dsimp only)); obtain ⟨n_, D_, hown_, hn_, hm_, hat_⟩ := MM.out; refine wpList_lookup_own_bool _ rfl _ _ 63 rfl 3 4 (Maps.int_keyed Try.underlying3) Try.underlying63 Try.underlying4 (zero4 _) bm n_ D_ rfl hown_ _ _ rfl (Maps.keyOf_int_mk Try.underlying3 HW.out) ?_; intro c_ hc_; have e_ : c_ = true := (by have h1_ := (hat_ _ HW.out).symm.trans hc_; rw [HS.out] at h1_; injection h1_ with h1_; injection h1_ with h1_; exact h1_.symm); subst e_; clear hown_ hn_ hm_ hat_ hc_)
              | ((with_reducible refine gate_builtin (b := .append) (xs := #[.tmp 23, .tmp 25]) rfl ?_); at_builtin; refine Kd.R_append (Kd.int .i64) (w0 := w1) w1.heap.size rfl (.tmp 23) (.tmp 25) 24 3 (.int .i64 0) 8 rfl Try.underlying24 info3 rfl (by decide) (by omega) (.slice Ao out.length co) out z [.int .i64 z] (fun _ => True) (fun _ => False) rfl rfl rfl (fun _ hk => hk.elim) (fun _ _ => trivial) HO.out HB.out HB.out.size LO.out ?_; intro v26 w26 ho hb hg hat; clear HO HB; have HO := Aside0.mk ho; have HB := Aside0.mk hb; clear ho hb hg hat; obtain ⟨A26, c26, ev26⟩ := Kd.R_slice HO.out; subst ev26))
            have HO2 := Aside0.mk (show Kd.R (Kd.int .i64) 3 w26 w1.heap.size (fun _ => True) (.slice A26 (out.length + 1) c26) (out ++ [z]) from by have h_ := HO.out; rw [List.length_append] at h_; exact h_)
            go_roundg d
            case measure => omega
            case rel => exact ⟨z + 1, i + 1, d, out ++ [z], Nat.le_refl _, congrArg (Value.int .i64) (by have := HI.out; have := HZ.out; unfold wrap64; omega), ⟨⟨by have := HI.out; omega, by have := HI.out; omega⟩, by have := HI.out; rw [List.length_append]; simp only [List.length_singleton]; omega⟩, HB, HO2, HG3⟩
          | false =>
            have HS := Aside0.mk hs
            have HG3 := Aside0.mk (show impl_PathLoops.go l0_0 k d (z + 1) out = some r from by have h_ := HG2.out; rw [if_neg (by rw [hs]; decide)] at h_; exact h_)
            clear HG2 hs
            go_wp2_with (first
              | (go_at_call 47; rw [← hw5]; refine (hcall w5 B5.out).mono ?_; rintro e w9 ⟨bm, rfl, hms, hnb, hb9⟩; have MM := Aside0.mk hms; have HB := Aside0.mk (below_step B5.out hb9); have HO := Aside0.mk (Kd.R_below R5.out hb9); clear hms hnb hb9 hcall)
              | (at_lookup; (try (refine gate_guard (by rfl) ?_; dsimp only)); obtain ⟨n_, D_, hown_, hn_, hm_, hat_⟩ := MM.out; refine wpList_lookup_own_bool _ rfl _ _ 63 rfl 3 4 (Maps.int_keyed Try.underlying3) Try.underlying63 Try.underlying4 (zero4 _) bm n_ D_ rfl hown_ _ _ rfl (Maps.keyOf_int_mk Try.underlying3 HW.out) ?_; intro c_ hc_; have e_ : c_ = false := (by have h1_ := (hat_ _ HW.out).symm.trans hc_; rw [HS.out] at h1_; injection h1_ with h1_; injection h1_ with h1_; exact h1_.symm); subst e_; clear hown_ hn_ hm_ hat_ hc_))
            go_roundg d
            case measure => omega
            case rel => exact ⟨z + 1, i + 1, d, out, Nat.le_refl _, congrArg (Value.int .i64) (by have := HI.out; have := HZ.out; unfold wrap64; omega), ⟨⟨by have := HI.out; omega, by have := HI.out; omega⟩, by have := HI.out; omega⟩, HB, HO, HG3⟩
    · rw [if_neg hz] at h
      cases h

/-! ### laws_heldIntS: function 26 -/
def laws_heldIntS.l0 : Nat → List Int → Int → Int → Option (Int)
  | 0, _, _, _ => none
  | k + 1, x0, x1, x5 => if x5 < (x0.length : Int) then (if 0 ≤ x5 then (if (rd x0 x5) = x1 then (laws_heldIntS.l0 k x0 (wrap64 (x1 + 1)) (wrap64 (x5 + 1))) else (some (-1))) else (none)) else (some x1)
def laws_heldIntS.f (k : Nat) (l0 : List Int) (a1 : Int) : Option (Int) := laws_heldIntS.l0 k l0 a1 0
theorem laws_heldIntS.mono_l : ∀ k, (∀ y0 y1 y2, LeO (laws_heldIntS.l0 k y0 y1 y2) (laws_heldIntS.l0 (k + 1) y0 y1 y2))
  | 0 => fun _ _ _ r h => by simp [laws_heldIntS.l0] at h
  | k + 1 => by
    have ih0 := laws_heldIntS.mono_l k
    · intro y0 y1 y2
      unfold laws_heldIntS.l0
      repeat' first
      | (with_reducible exact ih0 _ _ _)
      | (with_reducible exact LeO.refl _)
      | (with_reducible exact LeO.none _)
      | (with_reducible refine LeO.ite ?_ ?_)
      | (with_reducible refine LeO.bind ?_ (fun _ => ?_))
      | exact ih0 _ _ _
      | exact LeO.none _
      | refine LeO.ite ?_ ?_
      | refine LeO.bind ?_ (fun _ => ?_)
theorem laws_heldIntS.mono : ∀ a0 a1 k, LeO (laws_heldIntS.f k a0 a1) (laws_heldIntS.f (k + 1) a0 a1) := by
  intro a0 a1 k
  have ih0 := laws_heldIntS.mono_l k
  unfold laws_heldIntS.f
  repeat' first
      | (with_reducible exact ih0 _ _ _)
      | (with_reducible exact LeO.refl _)
      | (with_reducible exact LeO.none _)
      | (with_reducible refine LeO.ite ?_ ?_)
      | (with_reducible refine LeO.bind ?_ (fun _ => ?_))
      | exact ih0 _ _ _
      | exact LeO.none _
      | refine LeO.ite ?_ ?_
      | refine LeO.bind ?_ (fun _ => ?_)
set_option maxHeartbeats 8000000 in
set_option maxRecDepth 100000 in
theorem laws_heldIntS.calls (k : Nat) (A0 : Option Addr) (c0 : Nat) (l0 : List Int) (a1 : Int) (r : Int) (w : World) (hr0 : Kd.C (Kd.int .i64) w A0 l0.length l0) (hc0 : l0.length ≤ c0) (h : laws_heldIntS.f k l0 a1 = some r) :
    Calls Try.prog 26 #[.slice A0 l0.length c0, .int .i64 a1] w fun e w' => e = .returned (.int .i64 r) ∧ Drawn0 w w' := by
  have HR0 := Aside0.mk hr0
  have HC0 := Aside0.mk hc0
  clear hr0 hc0
  have H : (laws_heldIntS.l0 k l0 a1 0) = some r := h
  clear h
  have H' := Aside0.mk H
  clear H
  go_enter Try.func26, Try.ntmps26
  go_wp2
  go_loopg [1, 5] k (fun kq v1 v5 w' => ∃ (x1_1 : Int) (x5_1 : Int), v1 = .int .i64 x1_1 ∧ v5 = .int .i64 x5_1 ∧ Aside0 (laws_heldIntS.l0 kq l0 x1_1 x5_1 = some r) ∧ Aside0 (kq ≤ k) ∧ Drawn0 w w')
  case atStart => exact ⟨(a1), (0), (by first | rfl | (simp; done) | (simp [*]; done)), (by first | rfl | (simp; done) | (simp [*]; done)), H', ⟨Nat.le_refl _⟩, by repeat (first | exact Drawn0.refl _ | apply Drawn0.step)⟩
  case round =>
    clear H'
    try clear c2
    try clear p2
    obtain ⟨x1_1, x5_1, rfl, rfl, HA, HK1, ⟨m1, rfl⟩⟩ := hrel
    cases gk with
    | zero => exact absurd HA.out (by simp [laws_heldIntS.l0])
    | succ k1 =>
      have H := HA.out
      clear HA
      simp only [laws_heldIntS.l0] at H
      by_cases c3 : x5_1 < (l0.length : Int)
      · rw [if_pos c3] at H
        have c3b0 : decide (x5_1 < (l0.length : Int)) = true := decide_eq_true c3
        clear c3
        by_cases c4 : 0 ≤ x5_1
        · rw [if_pos c4] at H
          have c4b0 : decide (0 ≤ x5_1) = true := decide_eq_true c4
          clear c4
          by_cases c5 : (rd l0 x5_1) = x1_1
          · rw [if_pos c5] at H
            have c5b0 : ((rd l0 x5_1) == x1_1) = true := beq_iff_eq.mpr c5
            have c5b1 : ((rd l0 x5_1) != x1_1) = false := bne_eq_false_iff_eq.mpr c5
            clear c5
            have H' := Aside0.mk H
            clear H
            have p273 : 0 ≤ (x5_1 : Int) := of_decide_eq_true (by first | (with_reducible assumption) | assumption)
            have q273 : x5_1 < (l0.length : Int) := of_decide_eq_true (by first | (with_reducible assumption) | assumption)
            obtain ⟨ad273, e273, hx273_0⟩ := Kd.at_int HR0.out x5_1 p273 q273
            cases e273
            replace p273 := eq_true p273
            replace q273 := eq_true q273
            go_wp2
            go_roundg k1
            case measure => have := HK1.out; omega
            case rel => exact ⟨(wrap64 (x1_1 + 1)), (wrap64 (x5_1 + 1)), (by first | rfl | (simp; done) | (simp [*]; done)), (by first | rfl | (simp; done) | (simp [*]; done)), H', ⟨by have := HK1.out; omega⟩, by repeat (first | exact Drawn0.refl _ | apply Drawn0.step)⟩
          · rw [if_neg c5] at H
            have c5b0 : ((rd l0 x5_1) == x1_1) = false := beq_eq_false_iff_ne.mpr c5
            have c5b1 : ((rd l0 x5_1) != x1_1) = true := bne_iff_ne.mpr c5
            obtain rfl := Option.some.inj H
            have p273 : 0 ≤ (x5_1 : Int) := of_decide_eq_true (by first | (with_reducible assumption) | assumption)
            have q273 : x5_1 < (l0.length : Int) := of_decide_eq_true (by first | (with_reducible assumption) | assumption)
            obtain ⟨ad273, e273, hx273_0⟩ := Kd.at_int HR0.out x5_1 p273 q273
            cases e273
            replace p273 := eq_true p273
            replace q273 := eq_true q273
            go_wp2
            go_ret
            exact ⟨by first | rfl | (simp; done) | (simp [*]; done), by repeat (first | exact Drawn0.refl _ | apply Drawn0.step)⟩
        · rw [if_neg c4] at H
          exact absurd H (by simp)
      · rw [if_neg c3] at H
        have c3b0 : decide (x5_1 < (l0.length : Int)) = false := decide_eq_false c3
        clear c3
        obtain rfl := Option.some.inj H
        go_wp2
        go_ret
        exact ⟨by first | rfl | (simp; done) | (simp [*]; done), by repeat (first | exact Drawn0.refl _ | apply Drawn0.step)⟩

/-! ### laws_FnExactPathLoops: function 6 -/
theorem heap_set3 {W : World} {g k : Nat} (h : k ≠ g) (u0 u1 u2 : Value) : (((W.setCell ⟨g, 0, none⟩ u0).setCell ⟨g, 1, none⟩ u1).setCell ⟨g, 2, none⟩ u2).heap[k]? = W.heap[k]? :=
  (Deep.blk_setCell_other _ ⟨g, 2, none⟩ u2 k h).trans ((Deep.blk_setCell_other _ ⟨g, 1, none⟩ u1 k h).trans (Deep.blk_setCell_other W ⟨g, 0, none⟩ u0 k h))
def graphAt (w w' : World) (m1 m2 : Nat) (v0 v1 v2 : Value) (r1 : List S50) (r2 : List (List Int)) (r3 : List Int) : Prop :=
  w.heap.size ≤ m1 ∧ m1 ≤ m2 ∧ m2 ≤ w'.heap.size ∧ Kd.S k50 50 w' w.heap.size (fun k => k < m1) v0 r1 ∧ Kd.S (Kd.slice 3 (Kd.int .i64)) 24 w' w.heap.size (fun k => m1 ≤ k ∧ k < m2) v1 r2 ∧ Kd.R (Kd.int .i64) 3 w' w.heap.size (fun k => m2 ≤ k ∧ k < w'.heap.size) v2 r3
set_option maxHeartbeats 8000000 in
set_option maxRecDepth 100000 in
theorem toGraph_apart (k : Nat) (A0_0 : Option Addr) (c0_0 : Nat) (l0_0 : List (S72)) (A0_1 : Option Addr) (c0_1 : Nat) (l0_1 : List (List Int)) (A0_2 : Option Addr) (c0_2 : Nat) (l0_2 : List Int) (r1 : List (S50)) (r2 : List (List Int)) (r3 : List Int) (w : World) (hr0_0 : Kd.C k72 w A0_0 l0_0.length l0_0) (hc0_0 : l0_0.length ≤ c0_0) (hr0_1 : Kd.C (Kd.slice 3 (Kd.int .i64)) w A0_1 l0_1.length l0_1) (hc0_1 : l0_1.length ≤ c0_1) (hr0_2 : Kd.C (Kd.int .i64) w A0_2 l0_2.length l0_2) (hc0_2 : l0_2.length ≤ c0_2) (h : laws_toGraph.f k l0_0 l0_1 l0_2 = some (r1, r2, r3)) :
    Calls Try.prog 15 #[.agg #[.slice A0_0 l0_0.length c0_0, .slice A0_1 l0_1.length c0_1, .slice A0_2 l0_2.length c0_2]] w fun e w' => ∃ (v0 v1 v2 : Value) (m1 m2 : Nat), e = .returned (.agg #[v0, v1, v2]) ∧ graphAt w w' m1 m2 v0 v1 v2 r1 r2 r3 ∧ Below w.heap.size w w' := by
  obtain ⟨t0, F0, h⟩ := Option.bind_eq_some_iff.1 h
  obtain ⟨t1, F1, h⟩ := Option.bind_eq_some_iff.1 h
  obtain ⟨t2, F2, h⟩ := Option.bind_eq_some_iff.1 h
  simp only [Option.some.injEq, Prod.mk.injEq] at h
  obtain ⟨rfl, rfl, rfl⟩ := h
  obtain ⟨w1, hw1⟩ : ∃ w1, w1 = w.alloc (.cells #[.slice A0_0 l0_0.length c0_0, .slice A0_1 l0_1.length c0_1, .slice A0_2 l0_2.length c0_2] 34) := ⟨_, rfl⟩
  obtain ⟨w3, hw3⟩ : ∃ w3, w3 = (w1.alloc (.cells #[.slice none 0 0, .slice none 0 0, .slice none 0 0] 26)).alloc (.cells #[.slice none 0 0, .slice none 0 0, .slice none 0 0] 26) := ⟨_, rfl⟩
  have hs1 : w1.heap.size = w.heap.size + 1 := by rw [hw1]; simp
  have hs3 : w3.heap.size = w.heap.size + 3 := by rw [hw3]; simp [hs1]
  have hb1 : Below w.heap.size w w1 := by rw [hw1]; exact below_alloc (Below.refl _ _) _
  have hb3 : Below w1.heap.size w1 w3 := by rw [hw3]; exact below_alloc (below_alloc (Below.refl _ _) _) _
  have hbx : w1.heap[w.heap.size]? = some (.cells #[.slice A0_0 l0_0.length c0_0, .slice A0_1 l0_1.length c0_1, .slice A0_2 l0_2.length c0_2] 34 (0, 0)) := by rw [hw1]; exact blk_new w _
  have k1 : w3.heap[w.heap.size + 1]? = some (.cells #[.slice none 0 0, .slice none 0 0, .slice none 0 0] 26 (0, 0)) := by rw [hw3, ← hs1]; exact blk_alloc (blk_new w1 _) _
  have k2 : w3.heap[w.heap.size + 1 + 1]? = some (.cells #[.slice none 0 0, .slice none 0 0, .slice none 0 0] 26 (0, 0)) := by
    rw [hw3]
    have h := blk_new (w1.alloc (.cells #[.slice none 0 0, .slice none 0 0, .slice none 0 0] 26)) (.cells #[.slice none 0 0, .slice none 0 0, .slice none 0 0] 26)
    rwa [show (w1.alloc (.cells #[.slice none 0 0, .slice none 0 0, .slice none 0 0] 26)).heap.size = w.heap.size + 1 + 1 by simp [hs1]] at h
  have HC0 := Aside0.mk (Kd.C_below hr0_0 hb1)
  have HC1 := Aside0.mk (Kd.C_below hr0_1 hb1)
  have HC2 := Aside0.mk (Kd.C_below hr0_2 hb1)
  have L0 := Aside0.mk hc0_0
  have L1 := Aside0.mk hc0_1
  have L2 := Aside0.mk hc0_2
  have HX := Aside0.mk hbx
  have HB0 := Aside0.mk hb1
  have HB := Aside0.mk hb3
  have HS1 := Aside0.mk hs1
  have HS3 := Aside0.mk hs3
  have K1 := Aside0.mk k1
  have K2 := Aside0.mk k2
  have A0 := Aside0.mk F0
  have A1 := Aside0.mk F1
  have A2 := Aside0.mk F2
  have par : ∀ {W : World} (j : Nat), Below w1.heap.size w1 W → W.cell? ⟨w.heap.size, j, none⟩ = (#[.slice A0_0 l0_0.length c0_0, .slice A0_1 l0_1.length c0_1, .slice A0_2 l0_2.length c0_2] : Array Value)[j]? := fun j hb => (hb.cell (p := ⟨w.heap.size, j, none⟩) (by show w.heap.size < _; omega)).trans (blk_cell hbx j)
  have PAR := Aside0.mk @par
  clear hr0_0 hr0_1 hr0_2 hc0_0 hc0_1 hc0_2 hbx hb1 hb3 hs1 hs3 k1 k2 F0 F1 F2 par
  go_enter Try.func15, Try.ntmps15
  go_wp2_with (first
    | (go_at_call 40; rw [← hw1, ← hw3]; refine (laws_toNodeS.calls k _ _ l0_0 t0 w3 (Kd.C_below HC0.out HB.out) L0.out A0.out).mono ?_; rintro e w4 ⟨v0, rfl, hS, hb⟩; obtain ⟨E0, d0, e0⟩ := Kd.S_slice hS; subst e0; have S0 := Aside0.mk (Kd.S_mono (ok' := fun k_ => w3.heap.size ≤ k_ ∧ k_ < w4.heap.size) (Kd.S_bound hS) (fun k_ hk => ⟨hk.2.1, hk.2.2.1⟩)); have n1_ := Aside0.mk (blk_below K1.out hb); have n2_ := Aside0.mk (blk_below K2.out hb); have n3_ := Aside0.mk (below_step HB.out hb); have Z4 := Aside0.mk hb.size; clear hS K1 K2 HB hb; have K1 := n1_; have K2 := n2_; have HB := n3_; clear n1_ n2_ n3_; have x0 := (blk_cell K2.out 0).trans (show _ = some (Value.slice none 0 0) from rfl); have x1 := blk_frozen K2.out 0)
    | ((with_reducible refine gate_store (t := 22) (p := 7) rfl ?_); refine store_event (t := 22) (p := 7) (v := ?vo_w5) (w1 := (w4.setCell ⟨w.heap.size + 1 + 1, 0, none⟩ (.slice E0 t0.length d0))) ?hg ?ho ?hn ?hr ?_; (case ho => rfl); (case hg => rfl); (case hn => rfl); (case hr => first | (go_simp; done) | (go_simp; rfl)); intro w5 hw; have n0_ := Aside0.mk (show Kd.S k50 50 w5 w3.heap.size (fun k_ => w3.heap.size ≤ k_ ∧ k_ < w4.heap.size) (.slice E0 t0.length d0) t0 from (by rw [hw]; exact Kd.S_set S0.out K2.out (by decide) _ _)); have n1_ := Aside0.mk (show w5.heap[w.heap.size + 1]? = some (.cells #[.slice none 0 0, .slice none 0 0, .slice none 0 0] 26 (0, 0)) from (by rw [hw]; exact blk_far K1.out (p := ⟨w.heap.size + 1 + 1, 0, none⟩) (by show w.heap.size + 1 ≠ w.heap.size + 1 + 1; omega) _)); have n2_ := Aside0.mk (show w5.heap[w.heap.size + 1 + 1]? = some (.cells #[.slice E0 t0.length d0, .slice none 0 0, .slice none 0 0] 26 (0, 0)) from (by rw [hw]; exact blk_put K2.out 0 _ rfl)); have n3_ := Aside0.mk (show Below w1.heap.size w1 w5 from (by rw [hw]; exact below_set HB.out (by have := HS1.out; omega))); have Z5 := Aside0.mk (show w4.heap.size ≤ w5.heap.size from (by rw [hw]; simp [World.setCell])); clear S0 K1 K2 HB hw x0 x1; have S0 := n0_; have K1 := n1_; have K2 := n2_; have HB := n3_; clear n0_ n1_ n2_ n3_; have x0 : w5.cell? ⟨w.heap.size, 1, none⟩ = some (.slice A0_1 l0_1.length c0_1) := (PAR.out 1 HB.out).trans rfl)
    | (go_at_call 41; refine (laws_toIntSS.calls k _ _ l0_1 t1 w5 (Kd.C_below HC1.out HB.out) L1.out A1.out).mono ?_; rintro e w6 ⟨v1, rfl, hS, hb⟩; obtain ⟨E1, d1, e1⟩ := Kd.S_slice hS; subst e1; have S1 := Aside0.mk (Kd.S_mono (ok' := fun k_ => w5.heap.size ≤ k_ ∧ k_ < w6.heap.size) (Kd.S_bound hS) (fun k_ hk => ⟨hk.2.1, hk.2.2.1⟩)); have n0_ := Aside0.mk (Kd.S_below S0.out hb); have n1_ := Aside0.mk (blk_below K1.out hb); have n2_ := Aside0.mk (blk_below K2.out hb); have n3_ := Aside0.mk (below_step HB.out hb); have Z6 := Aside0.mk hb.size; clear hS S0 K1 K2 HB hb x0; have S0 := n0_; have K1 := n1_; have K2 := n2_; have HB := n3_; clear n0_ n1_ n2_ n3_; have x0 := (blk_cell K2.out 1).trans (show _ = some (Value.slice none 0 0) from rfl); have x1 := blk_frozen K2.out 1)
    | ((with_reducible refine gate_store (t := 23) (p := 11) rfl ?_); refine store_event (t := 23) (p := 11) (v := ?vo_w7) (w1 := (w6.setCell ⟨w.heap.size + 1 + 1, 1, none⟩ (.slice E1 t1.length d1))) ?hg ?ho ?hn ?hr ?_; (case ho => rfl); (case hg => rfl); (case hn => rfl); (case hr => first | (go_simp; done) | (go_simp; rfl)); intro w7 hw; have n0_ := Aside0.mk (show Kd.S k50 50 w7 w3.heap.size (fun k_ => w3.heap.size ≤ k_ ∧ k_ < w4.heap.size) (.slice E0 t0.length d0) t0 from (by rw [hw]; exact Kd.S_set S0.out K2.out (by decide) _ _)); have n5_ := Aside0.mk (show Kd.S (Kd.slice 3 (Kd.int .i64)) 24 w7 w5.heap.size (fun k_ => w5.heap.size ≤ k_ ∧ k_ < w6.heap.size) (.slice E1 t1.length d1) t1 from (by rw [hw]; exact Kd.S_set S1.out K2.out (by decide) _ _)); have n1_ := Aside0.mk (show w7.heap[w.heap.size + 1]? = some (.cells #[.slice none 0 0, .slice none 0 0, .slice none 0 0] 26 (0, 0)) from (by rw [hw]; exact blk_far K1.out (p := ⟨w.heap.size + 1 + 1, 1, none⟩) (by show w.heap.size + 1 ≠ w.heap.size + 1 + 1; omega) _)); have n2_ := Aside0.mk (show w7.heap[w.heap.size + 1 + 1]? = some (.cells #[.slice E0 t0.length d0, .slice E1 t1.length d1, .slice none 0 0] 26 (0, 0)) from (by rw [hw]; exact blk_put K2.out 1 _ rfl)); have n3_ := Aside0.mk (show Below w1.heap.size w1 w7 from (by rw [hw]; exact below_set HB.out (by have := HS1.out; omega))); have Z7 := Aside0.mk (show w6.heap.size ≤ w7.heap.size from (by rw [hw]; simp [World.setCell])); clear S0 S1 K1 K2 HB hw x0 x1; have S0 := n0_; have S1 := n5_; have K1 := n1_; have K2 := n2_; have HB := n3_; clear n0_ n1_ n2_ n3_ n5_; have x0 : w7.cell? ⟨w.heap.size, 2, none⟩ = some (.slice A0_2 l0_2.length c0_2) := (PAR.out 2 HB.out).trans rfl)
    | (go_at_call 42; refine (laws_toIntS.calls k _ _ l0_2 t2 w7 (Kd.C_below HC2.out HB.out) L2.out A2.out).mono ?_; rintro e w8 ⟨v2, rfl, hS, hb⟩; obtain ⟨E2, d2, e2⟩ := Kd.R_slice hS; subst e2; have S2 := Aside0.mk (Kd.R_mono (ok' := fun k_ => w7.heap.size ≤ k_ ∧ k_ < w8.heap.size) (Kd.R_bound hS) (fun k_ hk => ⟨hk.2.1, hk.2.2.1⟩)); have n0_ := Aside0.mk (Kd.S_below S0.out hb); have n5_ := Aside0.mk (Kd.S_below S1.out hb); have n1_ := Aside0.mk (blk_below K1.out hb); have n2_ := Aside0.mk (blk_below K2.out hb); have n3_ := Aside0.mk (below_step HB.out hb); have Z8 := Aside0.mk hb.size; clear hS S0 S1 K1 K2 HB hb x0; have S0 := n0_; have S1 := n5_; have K1 := n1_; have K2 := n2_; have HB := n3_; clear n0_ n1_ n2_ n3_ n5_; have x0 := (blk_cell K2.out 2).trans (show _ = some (Value.slice none 0 0) from rfl); have x1 := blk_frozen K2.out 2)
    | ((with_reducible refine gate_store (t := 24) (p := 15) rfl ?_); refine store_event (t := 24) (p := 15) (v := ?vo_w9) (w1 := (w8.setCell ⟨w.heap.size + 1 + 1, 2, none⟩ (.slice E2 t2.length d2))) ?hg ?ho ?hn ?hr ?_; (case ho => rfl); (case hg => rfl); (case hn => rfl); (case hr => first | (go_simp; done) | (go_simp; rfl)); intro w9 hw; have n0_ := Aside0.mk (show Kd.S k50 50 w9 w3.heap.size (fun k_ => w3.heap.size ≤ k_ ∧ k_ < w4.heap.size) (.slice E0 t0.length d0) t0 from (by rw [hw]; exact Kd.S_set S0.out K2.out (by decide) _ _)); have n5_ := Aside0.mk (show Kd.S (Kd.slice 3 (Kd.int .i64)) 24 w9 w5.heap.size (fun k_ => w5.heap.size ≤ k_ ∧ k_ < w6.heap.size) (.slice E1 t1.length d1) t1 from (by rw [hw]; exact Kd.S_set S1.out K2.out (by decide) _ _)); have n6_ := Aside0.mk (show Kd.R (Kd.int .i64) 3 w9 w7.heap.size (fun k_ => w7.heap.size ≤ k_ ∧ k_ < w8.heap.size) (.slice E2 t2.length d2) t2 from (by rw [hw]; exact Kd.R_set S2.out K2.out (by decide) _ _)); have n1_ := Aside0.mk (show w9.heap[w.heap.size + 1]? = some (.cells #[.slice none 0 0, .slice none 0 0, .slice none 0 0] 26 (0, 0)) from (by rw [hw]; exact blk_far K1.out (p := ⟨w.heap.size + 1 + 1, 2, none⟩) (by show w.heap.size + 1 ≠ w.heap.size + 1 + 1; omega) _)); have n2_ := Aside0.mk (show w9.heap[w.heap.size + 1 + 1]? = some (.cells #[.slice E0 t0.length d0, .slice E1 t1.length d1, .slice E2 t2.length d2] 26 (0, 0)) from (by rw [hw]; exact blk_put K2.out 2 _ rfl)); have n3_ := Aside0.mk (show Below w1.heap.size w1 w9 from (by rw [hw]; exact below_set HB.out (by have := HS1.out; omega))); have Z9 := Aside0.mk (show w8.heap.size = w9.heap.size from (by rw [hw]; simp [World.setCell])); clear S0 S1 S2 K1 K2 HB hw x0 x1; have S0 := n0_; have S1 := n5_; have S2 := n6_; have K1 := n1_; have K2 := n2_; have HB := n3_; clear n0_ n1_ n2_ n3_ n5_ n6_; have y0 := (blk_cell K2.out 0).trans (show _ = some (Value.slice E0 t0.length d0) from rfl); have y1 := (blk_cell K2.out 1).trans (show _ = some (Value.slice E1 t1.length d1) from rfl); have y2 := (blk_cell K2.out 2).trans (show _ = some (Value.slice E2 t2.length d2) from rfl); have z0 := (blk_cell K1.out 0).trans (show _ = some (Value.slice none 0 0) from rfl); have z1 := (blk_cell K1.out 1).trans (show _ = some (Value.slice none 0 0) from rfl); have z2 := (blk_cell K1.out 2).trans (show _ = some (Value.slice none 0 0) from rfl); have f0 := blk_frozen K1.out 0; have f1 := blk_frozen K1.out 1; have f2 := blk_frozen K1.out 2))
  refine bodyPost_ret (results_cell_row rfl _ _ (w.heap.size + 1) 26 #[.slice E0 t0.length d0, .slice E1 t1.length d1, .slice E2 t2.length d2] (0, 0) _ rfl (by refine blk_put (cs := #[.slice E0 t0.length d0, .slice E1 t1.length d1, .slice none 0 0]) ?_ 2 _ rfl; refine blk_put (cs := #[.slice E0 t0.length d0, .slice none 0 0, .slice none 0 0]) ?_ 1 _ rfl; refine blk_put (cs := #[.slice none 0 0, .slice none 0 0, .slice none 0 0]) ?_ 0 _ rfl; exact K1.out) Try.underlying26 rfl (by kernel_rfl)) rfl ?_
  have h1 := HS1.out
  have h3 := HS3.out
  have g4 := Z4.out
  have g5 := Z5.out
  have g6 := Z6.out
  have g7 := Z7.out
  have g8 := Z8.out
  have g9 := Z9.out
  have hsz : ∀ u0 u1 u2 : Value, (((w9.setCell ⟨w.heap.size + 1, 0, none⟩ u0).setCell ⟨w.heap.size + 1, 1, none⟩ u1).setCell ⟨w.heap.size + 1, 2, none⟩ u2).heap.size = w9.heap.size := fun u0 u1 u2 => by simp [World.setCell]
  refine ⟨_, _, _, w4.heap.size, w6.heap.size, rfl, ⟨by omega, by omega, by rw [hsz]; omega, ?_, ?_, ?_⟩, below_step HB0.out (below_set (below_set (below_set HB.out (by omega)) (by omega)) (by omega))⟩
  · exact Kd.S_lower (Kd.S_mono (Kd.S_move S0.out (fun k_ hk => heap_set3 (by have := hk.1; omega) _ _ _)) (fun k_ hk => hk.2)) (by omega)
  · exact Kd.S_lower (Kd.S_mono (Kd.S_move S1.out (fun k_ hk => heap_set3 (by have := hk.1; omega) _ _ _)) (fun k_ hk => ⟨by have := hk.1; omega, hk.2⟩)) (by omega)
  · exact Kd.R_lower (Kd.R_mono (Kd.R_move S2.out (fun k_ hk => heap_set3 (by have := hk.1; omega) _ _ _)) (fun k_ hk => ⟨by have := hk.1; omega, by rw [hsz]; have := hk.2; omega⟩)) (by omega)

def laws_FnExactPathLoops.f (k : Nat) (l0 : List S72) (l1 : List (List Int)) (l2 : List Int) : Option Bool := (laws_szGraph.f k l0 l1 l2 1048576).bind fun z => if z < 0 then some true else
  (laws_toGraph.f k l0 l1 l2).bind fun g => (spec_PathLoops.f k g.1 g.2.1 g.2.2).bind fun ws => (impl_PathLoops.f k g.1 g.2.1 g.2.2).bind fun gs => (laws_eqIntS.f k gs ws).bind fun e1 => (laws_eqGraph.f k g.1 g.2.1 g.2.2 g.1 g.2.1 g.2.2).bind fun e2 =>
  (laws_markGraph.f k g.1 g.2.1 g.2.2 1).bind fun mk => (laws_markIntS.f k gs 1).bind fun mb => (laws_heldIntS.f k mb.2 1).bind fun hb => if e1 = true ∧ e2 = true ∧ ¬ mk < 0 ∧ ¬ hb < 0 ∧ hb = mb.1 then some true else none
structure RowsAt (w1 W : World) (vw vg : Value) (s1 s2 : Nat) (ws gs : List Int) : Prop where
  below : Below w1.heap.size w1 W
  rw_ : Kd.R (Kd.int .i64) 3 W w1.heap.size (fun k => k < s1) vw ws
  rg : Kd.R (Kd.int .i64) 3 W w1.heap.size (fun k => s2 < k) vg gs
theorem RowsAt.step {w1 W W' : World} {vw vg : Value} {s1 s2 : Nat} {ws gs : List Int} (h : RowsAt w1 W vw vg s1 s2 ws gs) (hb : Below W.heap.size W W') : RowsAt w1 W' vw vg s1 s2 ws gs :=
  ⟨below_step h.below hb, Kd.R_below h.rw_ hb, Kd.R_below h.rg hb⟩
structure GraphIn (w0 W : World) (bx m1 m2 s2 : Nat) (v0 v1 v2 : Value) (r1 : List S50) (r2 : List (List Int)) (r3 : List Int) : Prop where
  bel : Below w0.heap.size w0 W
  kx : W.heap[bx]? = some (.cells #[v0, v1, v2] 26 (0, 0))
  S0 : Kd.S k50 50 W w0.heap.size (fun k => k < m1) v0 r1
  S1 : Kd.S (Kd.slice 3 (Kd.int .i64)) 24 W w0.heap.size (fun k => m1 ≤ k ∧ k < m2) v1 r2
  S2 : Kd.R (Kd.int .i64) 3 W w0.heap.size (fun k => m2 ≤ k ∧ k < s2) v2 r3
theorem GraphIn.step {w0 W W' : World} {bx m1 m2 s2 : Nat} {v0 v1 v2 : Value} {r1 : List S50} {r2 : List (List Int)} {r3 : List Int} (h : GraphIn w0 W bx m1 m2 s2 v0 v1 v2 r1 r2 r3) (hb : Below W.heap.size W W') : GraphIn w0 W' bx m1 m2 s2 v0 v1 v2 r1 r2 r3 :=
  ⟨below_step h.bel hb, blk_below h.kx hb, Kd.S_below h.S0 hb, Kd.S_below h.S1 hb, Kd.R_below h.S2 hb⟩
theorem drawn_below {w W : World} (h : Drawn0 w W) : Below w.heap.size w W := by
  obtain ⟨nd, rfl⟩ := h
  exact pw_below_drewN (Below.refl _ _) nd
set_option maxHeartbeats 8000000 in
set_option maxRecDepth 100000 in
theorem laws_FnExactPathLoops.calls (k : Nat) (A0_0 : Option Addr) (c0_0 : Nat) (l0_0 : List (S72)) (A0_1 : Option Addr) (c0_1 : Nat) (l0_1 : List (List Int)) (A0_2 : Option Addr) (c0_2 : Nat) (l0_2 : List Int) (r : Bool) (w : World) (hr0_0 : Kd.C k72 w A0_0 l0_0.length l0_0) (hc0_0 : l0_0.length ≤ c0_0) (hr0_1 : Kd.C (Kd.slice 3 (Kd.int .i64)) w A0_1 l0_1.length l0_1) (hc0_1 : l0_1.length ≤ c0_1) (hr0_2 : Kd.C (Kd.int .i64) w A0_2 l0_2.length l0_2) (hc0_2 : l0_2.length ≤ c0_2) (h : laws_FnExactPathLoops.f k l0_0 l0_1 l0_2 = some r) :
    Calls Try.prog 6 #[.agg #[.slice A0_0 l0_0.length c0_0, .slice A0_1 l0_1.length c0_1, .slice A0_2 l0_2.length c0_2]] w fun e w' => e = .returned (.bool r) ∧ Below w.heap.size w w' := by
  obtain ⟨z, Fz, h⟩ := Option.bind_eq_some_iff.1 h
  obtain ⟨w1, hw1⟩ : ∃ w1, w1 = w.alloc (.cells #[.slice A0_0 l0_0.length c0_0, .slice A0_1 l0_1.length c0_1, .slice A0_2 l0_2.length c0_2] 34) := ⟨_, rfl⟩
  have hs1 : w1.heap.size = w.heap.size + 1 := by rw [hw1]; simp
  have hb1 : Below w.heap.size w w1 := by rw [hw1]; exact below_alloc (Below.refl _ _) _
  have hbx : w1.heap[w.heap.size]? = some (.cells #[.slice A0_0 l0_0.length c0_0, .slice A0_1 l0_1.length c0_1, .slice A0_2 l0_2.length c0_2] 34 (0, 0)) := by rw [hw1]; exact blk_new w _
  have C0 := Kd.C_below hr0_0 hb1
  have C1 := Kd.C_below hr0_1 hb1
  have C2 := Kd.C_below hr0_2 hb1
  have cz := laws_szGraph.calls k A0_0 c0_0 l0_0 A0_1 c0_1 l0_1 A0_2 c0_2 l0_2 1048576 z w1 C0 hc0_0 C1 hc0_1 C2 hc0_2 Fz
  have B1 := Aside0.mk hb1
  by_cases hz : z < 0
  · rw [if_pos hz] at h
    obtain rfl := Option.some.inj h
    have hzd : decide (z < 0) = true := decide_eq_true hz
    clear C0 C1 C2 hbx hr0_0 hr0_1 hr0_2 hc0_0 hc0_1 hc0_2 Fz hs1 hb1 h
    go_enter Try.func6, Try.ntmps6
    go_wp2_with (go_at_call 13; rw [← hw1]; refine cz.mono ?_; rintro e w2 ⟨rfl, hb2⟩; have B2 := Aside0.mk hb2; clear cz hb2)
    go_ret
    exact ⟨rfl, below_step B1.out B2.out⟩
  · rw [if_neg hz] at h
    obtain ⟨⟨r1, r2, r3⟩, FG, h⟩ := Option.bind_eq_some_iff.1 h
    obtain ⟨ws, FS, h⟩ := Option.bind_eq_some_iff.1 h
    obtain ⟨gs, FI, h⟩ := Option.bind_eq_some_iff.1 h
    obtain ⟨e1, FE, h⟩ := Option.bind_eq_some_iff.1 h
    obtain ⟨e2, FQ, h⟩ := Option.bind_eq_some_iff.1 h
    obtain ⟨mk, FM, h⟩ := Option.bind_eq_some_iff.1 h
    obtain ⟨⟨mb1, mb2⟩, FB, h⟩ := Option.bind_eq_some_iff.1 h
    obtain ⟨hb, FH, h⟩ := Option.bind_eq_some_iff.1 h
    by_cases hc : e1 = true ∧ e2 = true ∧ ¬ mk < 0 ∧ ¬ hb < 0 ∧ hb = mb1
    · rw [if_pos hc] at h
      obtain rfl := Option.some.inj h
      obtain ⟨rfl, rfl, hmk, hhb, rfl⟩ := hc
      -- the graph, made anew from the arguments, in any later world
      have tg : ∀ W, Below w1.heap.size w1 W → Calls Try.prog 15 #[.agg #[.slice A0_0 l0_0.length c0_0, .slice A0_1 l0_1.length c0_1, .slice A0_2 l0_2.length c0_2]] W fun e w' => ∃ (v0 v1 v2 : Value) (m1 m2 : Nat), e = .returned (.agg #[v0, v1, v2]) ∧ graphAt W w' m1 m2 v0 v1 v2 r1 r2 r3 ∧ Below W.heap.size W w' :=
        fun W hW => toGraph_apart k A0_0 c0_0 l0_0 A0_1 c0_1 l0_1 A0_2 c0_2 l0_2 r1 r2 r3 W (Kd.C_below C0 hW) hc0_0 (Kd.C_below C1 hW) hc0_1 (Kd.C_below C2 hW) hc0_2 FG
      have par : ∀ {W : World} (j : Nat), Below w1.heap.size w1 W → W.cell? ⟨w.heap.size, j, none⟩ = (#[.slice A0_0 l0_0.length c0_0, .slice A0_1 l0_1.length c0_1, .slice A0_2 l0_2.length c0_2] : Array Value)[j]? := fun j hb => (hb.cell (p := ⟨w.heap.size, j, none⟩) (by show w.heap.size < _; omega)).trans (blk_cell hbx j)
      have TG := Aside0.mk tg
      have PAR := Aside0.mk @par
      have AS := Aside0.mk FS
      have AI := Aside0.mk FI
      have AE := Aside0.mk FE
      have AQ := Aside0.mk FQ
      have AM := Aside0.mk FM
      have AB := Aside0.mk FB
      have AH := Aside0.mk FH
      have hzd : decide (z < 0) = false := decide_eq_false hz
      have hmd : decide (mk < 0) = false := decide_eq_false hmk
      have hhd : decide (hb < 0) = false := decide_eq_false hhb
      clear C0 C1 C2 hbx hr0_0 hr0_1 hr0_2 hc0_0 hc0_1 hc0_2 Fz hs1 hb1 h FG FS FI FE FQ FM FB FH tg par hz hmk hhb
      have T1 := Aside0.mk trivial
      have T2 := Aside0.mk trivial
      have T4 := Aside0.mk trivial
      go_enter Try.func6, Try.ntmps6
      go_wp2_with (first
        | (go_at_call 13; rw [← hw1]; refine cz.mono ?_; rintro e w2 ⟨rfl, hb2⟩; have B2 := Aside0.mk hb2; have q0 := (PAR.out 0 hb2).trans (show _ = some (Value.slice A0_0 l0_0.length c0_0) from rfl); have q1 := (PAR.out 1 hb2).trans (show _ = some (Value.slice A0_1 l0_1.length c0_1) from rfl); have q2 := (PAR.out 2 hb2).trans (show _ = some (Value.slice A0_2 l0_2.length c0_2) from rfl); clear cz hb2)
        | (clear T1; go_at_call 15; refine (TG.out w2 B2.out).mono ?_; rintro e w3 ⟨t0, t1, t2, n1, n2, rfl, hga, hb3⟩; obtain ⟨_, _, _, hS0, hS1, hS2⟩ := hga; obtain ⟨E0, d0, e0, le0, ce0⟩ := Kd.S_reads hS0; obtain ⟨E1, d1, e1_, le1, ce1⟩ := Kd.S_reads hS1; obtain ⟨E2, d2, e2_, le2, ce2⟩ := Kd.R_reads hS2; subst e0; subst e1_; subst e2_; have cs := spec_PathLoops.calls k E0 d0 r1 E1 d1 r2 E2 d2 r3 ws w3 ce0 le0 ce1 le1 ce2 le2 AS.out; have B3 := Aside0.mk (below_step B2.out hb3); clear hS0 hS1 hS2 le0 le1 le2 ce0 ce1 ce2 hb3 q0 q1 q2)
        | (go_at_call 22; refine cs.mono ?_; rintro e w4 ⟨vw, rfl, hrw, hb4⟩; have B4 := Aside0.mk (below_step B3.out hb4); obtain ⟨Aw, dw, ew⟩ := Kd.R_slice hrw; subst ew; have RW := Aside0.mk (Kd.R_lower (Kd.R_mono (ok' := fun k_ => k_ < w4.heap.size) (Kd.R_bound hrw) (fun k_ hk => hk.2.2.1)) B3.out.size); have q0 := (PAR.out 0 B4.out).trans (show _ = some (Value.slice A0_0 l0_0.length c0_0) from rfl); have q1 := (PAR.out 1 B4.out).trans (show _ = some (Value.slice A0_1 l0_1.length c0_1) from rfl); have q2 := (PAR.out 2 B4.out).trans (show _ = some (Value.slice A0_2 l0_2.length c0_2) from rfl); clear cs hrw hb4)
        | (clear T2; go_at_call 15; refine (TG.out w4 B4.out).mono ?_; rintro e w5 ⟨t0, t1, t2, m1, m2, rfl, hga, hb5⟩; obtain ⟨hm1, hm2, hm3, hS0, hS1, hS2⟩ := hga; obtain ⟨X0, x0_, f0_⟩ := Kd.S_slice hS0; obtain ⟨X1, x1_, f1_⟩ := Kd.S_slice hS1; obtain ⟨X2, x2_, f2_⟩ := Kd.R_slice hS2; subst f0_; subst f1_; subst f2_; have M := Aside0.mk (And.intro hm1 (And.intro hm2 hm3)); have S0 := Aside0.mk hS0; have S1 := Aside0.mk hS1; have S2 := Aside0.mk hS2; have B5 := Aside0.mk hb5; clear hm1 hm2 hm3 hS0 hS1 hS2 hb5 q0 q1 q2; have GI := Aside0.mk (show GraphIn w4 (w5.alloc (.cells #[.slice X0 r1.length x0_, .slice X1 r2.length x1_, .slice X2 r3.length x2_] 26)) w5.heap.size m1 m2 w5.heap.size (.slice X0 r1.length x0_) (.slice X1 r2.length x1_) (.slice X2 r3.length x2_) r1 r2 r3 from ⟨below_alloc B5.out _, blk_new w5 _, Kd.S_alloc S0.out _, Kd.S_alloc S1.out _, Kd.R_alloc S2.out _⟩); obtain ⟨w6, hw6⟩ : ∃ w6, w6 = w5.alloc (.cells #[.slice X0 r1.length x0_, .slice X1 r2.length x1_, .slice X2 r3.length x2_] 26) := ⟨_, rfl⟩; rw [← hw6] at GI; have ci := impl_PathLoops.calls k X0 x0_ r1 X1 x1_ r2 X2 x2_ r3 gs w6 (Kd.S_reads' GI.out.S0).2.2 (Kd.S_reads' GI.out.S0).2.1 (Kd.S_reads' GI.out.S1).2.2 (Kd.S_reads' GI.out.S1).2.1 (Kd.R_reads' GI.out.S2).2.2 (Kd.R_reads' GI.out.S2).2.1 AI.out; have W6 := Aside0.mk hw6; have B6 := Aside0.mk (show Below w4.heap.size w4 w6 from by rw [hw6]; exact below_alloc B5.out _); have Z6 := Aside0.mk (show w5.heap.size < w6.heap.size from by rw [hw6]; simp); clear S0 S1 S2 hw6)
        | (clear T4; go_at_call 23; rw [← W6.out]; refine ci.mono ?_; rintro e w7 ⟨vg, rfl, hrg, hb7⟩; obtain ⟨Ag, dg, eg⟩ := Kd.R_slice hrg; subst eg; have RA := Aside0.mk (show RowsAt w1 w7 (.slice Aw ws.length dw) (.slice Ag gs.length dg) w4.heap.size w5.heap.size ws gs from ⟨below_step (below_step B4.out B6.out) hb7, Kd.R_below (Kd.R_below RW.out B6.out) hb7, Kd.R_lower (Kd.R_mono (Kd.R_bound hrg) (fun k_ hk => Nat.lt_of_lt_of_le Z6.out hk.2.1)) (below_step B4.out B6.out).size⟩); have GI7 := Aside0.mk (GI.out.step hb7); clear GI RW hrg hb7 ci; have GI := GI7; clear GI7; have ce := laws_eqIntS.calls k _ _ gs _ _ ws true w7 (Kd.R_reads' RA.out.rg).2.2 (Kd.R_reads' RA.out.rg).2.1 (Kd.R_reads' RA.out.rw_).2.2 (Kd.R_reads' RA.out.rw_).2.1 AE.out)
        | (go_at_call 24; refine ce.mono ?_; rintro e w8 ⟨rfl, hd⟩; have hb8 := drawn_below hd; have RA8 := Aside0.mk (RA.out.step hb8); have GI8 := Aside0.mk (GI.out.step hb8); clear RA GI hd hb8 ce; have RA := RA8; have GI := GI8; clear RA8 GI8; have q0 := (PAR.out 0 RA.out.below).trans (show _ = some (Value.slice A0_0 l0_0.length c0_0) from rfl); have q1 := (PAR.out 1 RA.out.below).trans (show _ = some (Value.slice A0_1 l0_1.length c0_1) from rfl); have q2 := (PAR.out 2 RA.out.below).trans (show _ = some (Value.slice A0_2 l0_2.length c0_2) from rfl); have y0 := (blk_cell GI.out.kx 0).trans (show _ = some (Value.slice X0 r1.length x0_) from rfl); have y1 := (blk_cell GI.out.kx 1).trans (show _ = some (Value.slice X1 r2.length x1_) from rfl); have y2 := (blk_cell GI.out.kx 2).trans (show _ = some (Value.slice X2 r3.length x2_) from rfl)))
      go_region_with (first
        | (go_at_call 15; refine (TG.out _ (below_step RA.out.below (by repeat (first | exact Below.refl _ _ | apply below_drew1 | apply pw_below_drewN)))).mono ?_; rintro e w9 ⟨t0, t1, t2, n1, n2, rfl, hga, hb9⟩; obtain ⟨_, _, _, hS0, hS1, hS2⟩ := hga; obtain ⟨E4, d4, e0, le0, ce0⟩ := Kd.S_reads hS0; obtain ⟨E5, d5, e1_, le1, ce1⟩ := Kd.S_reads hS1; obtain ⟨E6, d6, e2_, le2, ce2⟩ := Kd.R_reads hS2; subst e0; subst e1_; subst e2_; have hb9' := below_step (show Below w8.heap.size w8 _ from (by repeat (first | exact Below.refl _ _ | apply below_drew1 | apply pw_below_drewN))) hb9; have RA9 := Aside0.mk (RA.out.step hb9'); have GI9 := Aside0.mk (GI.out.step hb9'); clear RA GI q0 q1 q2 y0 y1 y2; have RA := RA9; have GI := GI9; clear RA9 GI9; have y0 := (blk_cell GI.out.kx 0).trans (show _ = some (Value.slice X0 r1.length x0_) from rfl); have y1 := (blk_cell GI.out.kx 1).trans (show _ = some (Value.slice X1 r2.length x1_) from rfl); have y2 := (blk_cell GI.out.kx 2).trans (show _ = some (Value.slice X2 r3.length x2_) from rfl); have cq := laws_eqGraph.calls k X0 x0_ r1 X1 x1_ r2 X2 x2_ r3 E4 d4 r1 E5 d5 r2 E6 d6 r3 true w9 (Kd.S_reads' GI.out.S0).2.2 (Kd.S_reads' GI.out.S0).2.1 (Kd.S_reads' GI.out.S1).2.2 (Kd.S_reads' GI.out.S1).2.1 (Kd.R_reads' GI.out.S2).2.2 (Kd.R_reads' GI.out.S2).2.1 ce0 le0 ce1 le1 ce2 le2 AQ.out; clear hS0 hS1 hS2 le0 le1 le2 ce0 ce1 ce2 hb9 hb9')
        | (go_at_call 10; refine cq.mono ?_; rintro e w10 ⟨rfl, hb10⟩; have RA10 := Aside0.mk (RA.out.step hb10); have GI10 := Aside0.mk (GI.out.step hb10); clear RA GI cq hb10 y0 y1 y2; have RA := RA10; have GI := GI10; clear RA10 GI10; have y0 := (blk_cell GI.out.kx 0).trans (show _ = some (Value.slice X0 r1.length x0_) from rfl); have y1 := (blk_cell GI.out.kx 1).trans (show _ = some (Value.slice X1 r2.length x1_) from rfl); have y2 := (blk_cell GI.out.kx 2).trans (show _ = some (Value.slice X2 r3.length x2_) from rfl); have hm := M.out; have cm := laws_markGraph.calls k m1 m2 _ _ _ r1 r2 r3 1 mk w5.heap.size w4 w10 GI.out.bel hm.1 hm.2.1 hm.2.2 (by have z1 := Z6.out; have z2 := Kd.R_lt RA.out.rg; have z3 := blk_lt GI.out.kx; omega) GI.out.S0 GI.out.S1 GI.out.S2 AM.out; clear hm))
      all_goals
        have T5 := Aside0.mk trivial
        have T6 := Aside0.mk trivial
        have T7 := Aside0.mk trivial
        have T8 := Aside0.mk trivial
        go_wp2_with (first
          | (go_at_call 11; refine cm.mono ?_; rintro e w11 ⟨rfl, hb11, hk11⟩; have RA11 := Aside0.mk (show RowsAt w1 w11 (.slice Aw ws.length dw) (.slice Ag gs.length dg) w4.heap.size w5.heap.size ws gs from ⟨below_step B4.out hb11, Kd.R_kept RA.out.rw_ hk11 (fun k_ a1 a2 => by omega), Kd.R_kept RA.out.rg hk11 (fun k_ a1 a2 => by omega)⟩); clear RA GI cm hb11 hk11 y0 y1 y2; have RA := RA11; clear RA11; have ce := laws_eqIntS.calls k _ _ gs _ _ ws true w11 (Kd.R_reads' RA.out.rg).2.2 (Kd.R_reads' RA.out.rg).2.1 (Kd.R_reads' RA.out.rw_).2.2 (Kd.R_reads' RA.out.rw_).2.1 AE.out)
          | (clear T5; go_at_call 24; refine ce.mono ?_; rintro e w12 ⟨rfl, hd⟩; have RA12 := Aside0.mk (RA.out.step (drawn_below hd)); clear RA hd ce; have RA := RA12; clear RA12; have cb := laws_markIntS.calls k (fun k_ => w5.heap.size < k_) _ gs 1 hb mb2 w1 w12 RA.out.below RA.out.rg AB.out)
          | (go_at_call 25; refine cb.mono ?_; rintro e w13 ⟨rfl, hR, hB13, hK13⟩; have hm := M.out; have RA13 := Aside0.mk (show RowsAt w1 w13 (.slice Aw ws.length dw) (.slice Ag gs.length dg) w4.heap.size w5.heap.size ws mb2 from ⟨hB13, Kd.R_kept RA.out.rw_ hK13 (fun k_ a1 a2 => by have := hm.1; have := hm.2.1; have := hm.2.2; omega), Kd.R_reok rfl hR (fun k_ hk => RA.out.rg.1 k_ hk)⟩); have lg := Aside0.mk ((Kd.R_reads' RA13.out.rg).1); clear RA cb hR hB13 hK13 hm; have RA := RA13; clear RA13; have ch := laws_heldIntS.calls k Ag dg mb2 1 hb w13 (Kd.R_reads' RA.out.rg).2.2 (by have := (Kd.R_reads' RA.out.rg).2.1; rw [← lg.out]; exact this) AH.out; rw [← lg.out] at ch)
          | (clear T6; go_at_call 26; refine ch.mono ?_; rintro e w14 ⟨rfl, hd⟩; have RA14 := Aside0.mk (RA.out.step (drawn_below hd)); clear RA hd ch; have RA := RA14; clear RA14; have q0 := (PAR.out 0 RA.out.below).trans (show _ = some (Value.slice A0_0 l0_0.length c0_0) from rfl); have q1 := (PAR.out 1 RA.out.below).trans (show _ = some (Value.slice A0_1 l0_1.length c0_1) from rfl); have q2 := (PAR.out 2 RA.out.below).trans (show _ = some (Value.slice A0_2 l0_2.length c0_2) from rfl))
          | (go_at_call 15; refine (TG.out w14 RA.out.below).mono ?_; rintro e w15 ⟨t0, t1, t2, n1, n2, rfl, hga, hb15⟩; obtain ⟨_, _, _, hS0, hS1, hS2⟩ := hga; obtain ⟨E7, d7, e0, le0, ce0⟩ := Kd.S_reads hS0; obtain ⟨E8, d8, e1_, le1, ce1⟩ := Kd.S_reads hS1; obtain ⟨E9, d9, e2_, le2, ce2⟩ := Kd.R_reads hS2; subst e0; subst e1_; subst e2_; have ci2 := impl_PathLoops.calls k E7 d7 r1 E8 d8 r2 E9 d9 r3 gs w15 ce0 le0 ce1 le1 ce2 le2 AI.out; have RA15 := Aside0.mk (RA.out.step hb15); clear RA hS0 hS1 hS2 le0 le1 le2 ce0 ce1 ce2 hb15 q0 q1 q2; have RA := RA15; clear RA15)
          | (go_at_call 23; refine ci2.mono ?_; rintro e w16 ⟨vh, rfl, hrh, hb16⟩; obtain ⟨Ah, dh, eh, leh, ceh⟩ := Kd.R_reads hrh; subst eh; have RA16 := Aside0.mk (RA.out.step hb16); clear RA ci2 hrh hb16; have RA := RA16; clear RA16; have ce := laws_eqIntS.calls k _ _ gs _ _ ws true w16 ceh leh (Kd.R_reads' RA.out.rw_).2.2 (Kd.R_reads' RA.out.rw_).2.1 AE.out; clear ceh leh)
          | (clear T7; go_at_call 24; refine ce.mono ?_; rintro e w17 ⟨rfl, hd⟩; have RA17 := Aside0.mk (RA.out.step (drawn_below hd)); clear RA hd ce; have RA := RA17; clear RA17; have ch := laws_heldIntS.calls k Ag dg mb2 1 hb w17 (Kd.R_reads' RA.out.rg).2.2 (by have := (Kd.R_reads' RA.out.rg).2.1; rw [← lg.out]; exact this) AH.out; rw [← lg.out] at ch)
          | (clear T8; go_at_call 26; refine ch.mono ?_; rintro e w18 ⟨rfl, hd⟩; have RA18 := Aside0.mk (RA.out.step (drawn_below hd)); clear RA hd ch; have RA := RA18; clear RA18))
        go_ret
        exact ⟨rfl, below_step B1.out RA.out.below⟩
    · rw [if_neg hc] at h
      cases h

end Go.Proofs.Ytdaikmojalfimaa.QFnExactPathLoops
