-- Written by a program of this session that drives the print of the kit, with contracts of its own beside the printed ones. Lean checks it.
import Derived.Test.YtdaikmojalfimaaQFnExactPathFromx4
import Derived.Test.YtdaikmojalfimaaQFnExactPathFromx6
import Derived.Test.YtdaikmojalfimaaQFnExactPathFromx0
import Derived.Test.YtdaikmojalfimaaQFnExactPathFromx1
import Derived.Test.YtdaikmojalfimaaQFnExactPathFromx2
import Derived.Test.YtdaikmojalfimaaQFnExactPathFromx3
import Derived.Test.YtdaikmojalfimaaQFnExactPathFromx5
import Derived.Test.YtdaikmojalfimaaQFnExactPathFromx7
namespace Go.Proofs.Ytdaikmojalfimaa.QFnExactPathFrom
open Go.RowKit Go.Proofs.YtdaikmojalfimaaW.PrintWords Go.Proofs.YtdaikmojalfimaaW.PrintLast Go.Proofs.YtdaikmojalfimaaW.PrintMore
attribute [local go_sem] max2_int min2_int max_two min_two max_three min_three max_four min_four   -- for this text's walks alone
set_option linter.unusedVariables false
set_option linter.unusedSimpArgs false

/-! ### laws_FnExactPathFrom: function 7 -/
theorem heap_set3 {W : World} {g k : Nat} (h : k ≠ g) (u0 u1 u2 : Value) : (((W.setCell ⟨g, 0, none⟩ u0).setCell ⟨g, 1, none⟩ u1).setCell ⟨g, 2, none⟩ u2).heap[k]? = W.heap[k]? :=
  (Deep.blk_setCell_other _ ⟨g, 2, none⟩ u2 k h).trans ((Deep.blk_setCell_other _ ⟨g, 1, none⟩ u1 k h).trans (Deep.blk_setCell_other W ⟨g, 0, none⟩ u0 k h))
def graphAt (w w' : World) (m1 m2 : Nat) (v0 v1 v2 : Value) (r1 : List S50) (r2 : List (List Int)) (r3 : List Int) : Prop :=
  w.heap.size ≤ m1 ∧ m1 ≤ m2 ∧ m2 ≤ w'.heap.size ∧ Kd.S k50 50 w' w.heap.size (fun k => k < m1) v0 r1 ∧ Kd.S (Kd.slice 3 (Kd.int .i64)) 24 w' w.heap.size (fun k => m1 ≤ k ∧ k < m2) v1 r2 ∧ Kd.R (Kd.int .i64) 3 w' w.heap.size (fun k => m2 ≤ k ∧ k < w'.heap.size) v2 r3
set_option maxHeartbeats 8000000 in
set_option maxRecDepth 100000 in
theorem toGraph_apart (k : Nat) (A0_0 : Option Addr) (c0_0 : Nat) (l0_0 : List (S72)) (A0_1 : Option Addr) (c0_1 : Nat) (l0_1 : List (List Int)) (A0_2 : Option Addr) (c0_2 : Nat) (l0_2 : List Int) (r1 : List (S50)) (r2 : List (List Int)) (r3 : List Int) (w : World) (hr0_0 : Kd.C k72 w A0_0 l0_0.length l0_0) (hc0_0 : l0_0.length ≤ c0_0) (hr0_1 : Kd.C (Kd.slice 3 (Kd.int .i64)) w A0_1 l0_1.length l0_1) (hc0_1 : l0_1.length ≤ c0_1) (hr0_2 : Kd.C (Kd.int .i64) w A0_2 l0_2.length l0_2) (hc0_2 : l0_2.length ≤ c0_2) (h : laws_toGraph.f k l0_0 l0_1 l0_2 = some (r1, r2, r3)) :
    Calls Try.prog 15 #[.agg #[.slice A0_0 l0_0.length c0_0, .slice A0_1 l0_1.length c0_1, .slice A0_2 l0_2.length c0_2]] w fun e w' => ∃ (v0 v1 v2 : Value) (m1 m2 : Nat), e = .returned (.agg #[v0, v1, v2]) ∧ graphAt w w' m1 m2 v0 v1 v2 r1 r2 r3 ∧ Below w.heap.size w w' := by
  obtain ⟨t0, F0, h⟩ := Option.bind_eq_some_iff.1 h
  obtain ⟨t1, F1, h⟩ := Option.bind_eq_some_iff.1 h
  obtain ⟨t2, F2, h⟩ := Option.bind_eq_some_iff.1 h
  simp only [Option.some.injEq, Prod.mk.injEq] at h
  obtain ⟨rfl, rfl, rfl⟩ := h
  obtain ⟨w1, hw1⟩ : ∃ w1, w1 = w.alloc (.cells #[.slice A0_0 l0_0.length c0_0, .slice A0_1 l0_1.length c0_1, .slice A0_2 l0_2.length c0_2] 34) := ⟨_, rfl⟩
  obtain ⟨w3, hw3⟩ : ∃ w3, w3 = (w1.alloc (.cells #[.slice none 0 0, .slice none 0 0, .slice none 0 0] 26)).alloc (.cells #[.slice none 0 0, .slice none 0 0, .slice none 0 0] 26) := ⟨_, rfl⟩
  have hs1 : w1.heap.size = w.heap.size + 1 := by rw [hw1]; simp
  have hs3 : w3.heap.size = w.heap.size + 3 := by rw [hw3]; simp [hs1]
  have hb1 : Below w.heap.size w w1 := by rw [hw1]; exact below_alloc (Below.refl _ _) _
  have hb3 : Below w1.heap.size w1 w3 := by rw [hw3]; exact below_alloc (below_alloc (Below.refl _ _) _) _
  have hbx : w1.heap[w.heap.size]? = some (.cells #[.slice A0_0 l0_0.length c0_0, .slice A0_1 l0_1.length c0_1, .slice A0_2 l0_2.length c0_2] 34 (0, 0)) := by rw [hw1]; exact blk_new w _
  have k1 : w3.heap[w.heap.size + 1]? = some (.cells #[.slice none 0 0, .slice none 0 0, .slice none 0 0] 26 (0, 0)) := by rw [hw3, ← hs1]; exact blk_alloc (blk_new w1 _) _
  have k2 : w3.heap[w.heap.size + 1 + 1]? = some (.cells #[.slice none 0 0, .slice none 0 0, .slice none 0 0] 26 (0, 0)) := by
    rw [hw3]
    have h := blk_new (w1.alloc (.cells #[.slice none 0 0, .slice none 0 0, .slice none 0 0] 26)) (.cells #[.slice none 0 0, .slice none 0 0, .slice none 0 0] 26)
    rwa [show (w1.alloc (.cells #[.slice none 0 0, .slice none 0 0, .slice none 0 0] 26)).heap.size = w.heap.size + 1 + 1 by simp [hs1]] at h
  have HC0 := Aside0.mk (Kd.C_below hr0_0 hb1)
  have HC1 := Aside0.mk (Kd.C_below hr0_1 hb1)
  have HC2 := Aside0.mk (Kd.C_below hr0_2 hb1)
  have L0 := Aside0.mk hc0_0
  have L1 := Aside0.mk hc0_1
  have L2 := Aside0.mk hc0_2
  have HX := Aside0.mk hbx
  have HB0 := Aside0.mk hb1
  have HB := Aside0.mk hb3
  have HS1 := Aside0.mk hs1
  have HS3 := Aside0.mk hs3
  have K1 := Aside0.mk k1
  have K2 := Aside0.mk k2
  have A0 := Aside0.mk F0
  have A1 := Aside0.mk F1
  have A2 := Aside0.mk F2
  have par : ∀ {W : World} (j : Nat), Below w1.heap.size w1 W → W.cell? ⟨w.heap.size, j, none⟩ = (#[.slice A0_0 l0_0.length c0_0, .slice A0_1 l0_1.length c0_1, .slice A0_2 l0_2.length c0_2] : Array Value)[j]? := fun j hb => (hb.cell (p := ⟨w.heap.size, j, none⟩) (by show w.heap.size < _; omega)).trans (blk_cell hbx j)
  have PAR := Aside0.mk @par
  clear hr0_0 hr0_1 hr0_2 hc0_0 hc0_1 hc0_2 hbx hb1 hb3 hs1 hs3 k1 k2 F0 F1 F2 par
  go_enter Try.func15, Try.ntmps15
  go_wp2_with (first
    | (go_at_call 40; rw [← hw1, ← hw3]; refine (laws_toNodeS.calls k _ _ l0_0 t0 w3 (Kd.C_below HC0.out HB.out) L0.out A0.out).mono ?_; rintro e w4 ⟨v0, rfl, hS, hb⟩; obtain ⟨E0, d0, e0⟩ := Kd.S_slice hS; subst e0; have S0 := Aside0.mk (Kd.S_mono (ok' := fun k_ => w3.heap.size ≤ k_ ∧ k_ < w4.heap.size) (Kd.S_bound hS) (fun k_ hk => ⟨hk.2.1, hk.2.2.1⟩)); have n1_ := Aside0.mk (blk_below K1.out hb); have n2_ := Aside0.mk (blk_below K2.out hb); have n3_ := Aside0.mk (below_step HB.out hb); have Z4 := Aside0.mk hb.size; clear hS K1 K2 HB hb; have K1 := n1_; have K2 := n2_; have HB := n3_; clear n1_ n2_ n3_; have x0 := (blk_cell K2.out 0).trans (show _ = some (Value.slice none 0 0) from rfl); have x1 := blk_frozen K2.out 0)
    | ((with_reducible refine gate_store (t := 22) (p := 7) rfl ?_); refine store_event (t := 22) (p := 7) (v := ?vo_w5) (w1 := (w4.setCell ⟨w.heap.size + 1 + 1, 0, none⟩ (.slice E0 t0.length d0))) ?hg ?ho ?hn ?hr ?_; (case ho => rfl); (case hg => rfl); (case hn => rfl); (case hr => first | (go_simp; done) | (go_simp; rfl)); intro w5 hw; have n0_ := Aside0.mk (show Kd.S k50 50 w5 w3.heap.size (fun k_ => w3.heap.size ≤ k_ ∧ k_ < w4.heap.size) (.slice E0 t0.length d0) t0 from (by rw [hw]; exact Kd.S_set S0.out K2.out (by decide) _ _)); have n1_ := Aside0.mk (show w5.heap[w.heap.size + 1]? = some (.cells #[.slice none 0 0, .slice none 0 0, .slice none 0 0] 26 (0, 0)) from (by rw [hw]; exact blk_far K1.out (p := ⟨w.heap.size + 1 + 1, 0, none⟩) (by show w.heap.size + 1 ≠ w.heap.size + 1 + 1; omega) _)); have n2_ := Aside0.mk (show w5.heap[w.heap.size + 1 + 1]? = some (.cells #[.slice E0 t0.length d0, .slice none 0 0, .slice none 0 0] 26 (0, 0)) from (by rw [hw]; exact blk_put K2.out 0 _ rfl)); have n3_ := Aside0.mk (show Below w1.heap.size w1 w5 from (by rw [hw]; exact below_set HB.out (by have := HS1.out; omega))); have Z5 := Aside0.mk (show w4.heap.size ≤ w5.heap.size from (by rw [hw]; simp [World.setCell])); clear S0 K1 K2 HB hw x0 x1; have S0 := n0_; have K1 := n1_; have K2 := n2_; have HB := n3_; clear n0_ n1_ n2_ n3_; have x0 : w5.cell? ⟨w.heap.size, 1, none⟩ = some (.slice A0_1 l0_1.length c0_1) := (PAR.out 1 HB.out).trans rfl)
    | (go_at_call 41; refine (laws_toIntSS.calls k _ _ l0_1 t1 w5 (Kd.C_below HC1.out HB.out) L1.out A1.out).mono ?_; rintro e w6 ⟨v1, rfl, hS, hb⟩; obtain ⟨E1, d1, e1⟩ := Kd.S_slice hS; subst e1; have S1 := Aside0.mk (Kd.S_mono (ok' := fun k_ => w5.heap.size ≤ k_ ∧ k_ < w6.heap.size) (Kd.S_bound hS) (fun k_ hk => ⟨hk.2.1, hk.2.2.1⟩)); have n0_ := Aside0.mk (Kd.S_below S0.out hb); have n1_ := Aside0.mk (blk_below K1.out hb); have n2_ := Aside0.mk (blk_below K2.out hb); have n3_ := Aside0.mk (below_step HB.out hb); have Z6 := Aside0.mk hb.size; clear hS S0 K1 K2 HB hb x0; have S0 := n0_; have K1 := n1_; have K2 := n2_; have HB := n3_; clear n0_ n1_ n2_ n3_; have x0 := (blk_cell K2.out 1).trans (show _ = some (Value.slice none 0 0) from rfl); have x1 := blk_frozen K2.out 1)
    | ((with_reducible refine gate_store (t := 23) (p := 11) rfl ?_); refine store_event (t := 23) (p := 11) (v := ?vo_w7) (w1 := (w6.setCell ⟨w.heap.size + 1 + 1, 1, none⟩ (.slice E1 t1.length d1))) ?hg ?ho ?hn ?hr ?_; (case ho => rfl); (case hg => rfl); (case hn => rfl); (case hr => first | (go_simp; done) | (go_simp; rfl)); intro w7 hw; have n0_ := Aside0.mk (show Kd.S k50 50 w7 w3.heap.size (fun k_ => w3.heap.size ≤ k_ ∧ k_ < w4.heap.size) (.slice E0 t0.length d0) t0 from (by rw [hw]; exact Kd.S_set S0.out K2.out (by decide) _ _)); have n5_ := Aside0.mk (show Kd.S (Kd.slice 3 (Kd.int .i64)) 24 w7 w5.heap.size (fun k_ => w5.heap.size ≤ k_ ∧ k_ < w6.heap.size) (.slice E1 t1.length d1) t1 from (by rw [hw]; exact Kd.S_set S1.out K2.out (by decide) _ _)); have n1_ := Aside0.mk (show w7.heap[w.heap.size + 1]? = some (.cells #[.slice none 0 0, .slice none 0 0, .slice none 0 0] 26 (0, 0)) from (by rw [hw]; exact blk_far K1.out (p := ⟨w.heap.size + 1 + 1, 1, none⟩) (by show w.heap.size + 1 ≠ w.heap.size + 1 + 1; omega) _)); have n2_ := Aside0.mk (show w7.heap[w.heap.size + 1 + 1]? = some (.cells #[.slice E0 t0.length d0, .slice E1 t1.length d1, .slice none 0 0] 26 (0, 0)) from (by rw [hw]; exact blk_put K2.out 1 _ rfl)); have n3_ := Aside0.mk (show Below w1.heap.size w1 w7 from (by rw [hw]; exact below_set HB.out (by have := HS1.out; omega))); have Z7 := Aside0.mk (show w6.heap.size ≤ w7.heap.size from (by rw [hw]; simp [World.setCell])); clear S0 S1 K1 K2 HB hw x0 x1; have S0 := n0_; have S1 := n5_; have K1 := n1_; have K2 := n2_; have HB := n3_; clear n0_ n1_ n2_ n3_ n5_; have x0 : w7.cell? ⟨w.heap.size, 2, none⟩ = some (.slice A0_2 l0_2.length c0_2) := (PAR.out 2 HB.out).trans rfl)
    | (go_at_call 42; refine (laws_toIntS.calls k _ _ l0_2 t2 w7 (Kd.C_below HC2.out HB.out) L2.out A2.out).mono ?_; rintro e w8 ⟨v2, rfl, hS, hb⟩; obtain ⟨E2, d2, e2⟩ := Kd.R_slice hS; subst e2; have S2 := Aside0.mk (Kd.R_mono (ok' := fun k_ => w7.heap.size ≤ k_ ∧ k_ < w8.heap.size) (Kd.R_bound hS) (fun k_ hk => ⟨hk.2.1, hk.2.2.1⟩)); have n0_ := Aside0.mk (Kd.S_below S0.out hb); have n5_ := Aside0.mk (Kd.S_below S1.out hb); have n1_ := Aside0.mk (blk_below K1.out hb); have n2_ := Aside0.mk (blk_below K2.out hb); have n3_ := Aside0.mk (below_step HB.out hb); have Z8 := Aside0.mk hb.size; clear hS S0 S1 K1 K2 HB hb x0; have S0 := n0_; have S1 := n5_; have K1 := n1_; have K2 := n2_; have HB := n3_; clear n0_ n1_ n2_ n3_ n5_; have x0 := (blk_cell K2.out 2).trans (show _ = some (Value.slice none 0 0) from rfl); have x1 := blk_frozen K2.out 2)
    | ((with_reducible refine gate_store (t := 24) (p := 15) rfl ?_); refine store_event (t := 24) (p := 15) (v := ?vo_w9) (w1 := (w8.setCell ⟨w.heap.size + 1 + 1, 2, none⟩ (.slice E2 t2.length d2))) ?hg ?ho ?hn ?hr ?_; (case ho => rfl); (case hg => rfl); (case hn => rfl); (case hr => first | (go_simp; done) | (go_simp; rfl)); intro w9 hw; have n0_ := Aside0.mk (show Kd.S k50 50 w9 w3.heap.size (fun k_ => w3.heap.size ≤ k_ ∧ k_ < w4.heap.size) (.slice E0 t0.length d0) t0 from (by rw [hw]; exact Kd.S_set S0.out K2.out (by decide) _ _)); have n5_ := Aside0.mk (show Kd.S (Kd.slice 3 (Kd.int .i64)) 24 w9 w5.heap.size (fun k_ => w5.heap.size ≤ k_ ∧ k_ < w6.heap.size) (.slice E1 t1.length d1) t1 from (by rw [hw]; exact Kd.S_set S1.out K2.out (by decide) _ _)); have n6_ := Aside0.mk (show Kd.R (Kd.int .i64) 3 w9 w7.heap.size (fun k_ => w7.heap.size ≤ k_ ∧ k_ < w8.heap.size) (.slice E2 t2.length d2) t2 from (by rw [hw]; exact Kd.R_set S2.out K2.out (by decide) _ _)); have n1_ := Aside0.mk (show w9.heap[w.heap.size + 1]? = some (.cells #[.slice none 0 0, .slice none 0 0, .slice none 0 0] 26 (0, 0)) from (by rw [hw]; exact blk_far K1.out (p := ⟨w.heap.size + 1 + 1, 2, none⟩) (by show w.heap.size + 1 ≠ w.heap.size + 1 + 1; omega) _)); have n2_ := Aside0.mk (show w9.heap[w.heap.size + 1 + 1]? = some (.cells #[.slice E0 t0.length d0, .slice E1 t1.length d1, .slice E2 t2.length d2] 26 (0, 0)) from (by rw [hw]; exact blk_put K2.out 2 _ rfl)); have n3_ := Aside0.mk (show Below w1.heap.size w1 w9 from (by rw [hw]; exact below_set HB.out (by have := HS1.out; omega))); have Z9 := Aside0.mk (show w8.heap.size = w9.heap.size from (by rw [hw]; simp [World.setCell])); clear S0 S1 S2 K1 K2 HB hw x0 x1; have S0 := n0_; have S1 := n5_; have S2 := n6_; have K1 := n1_; have K2 := n2_; have HB := n3_; clear n0_ n1_ n2_ n3_ n5_ n6_; have y0 := (blk_cell K2.out 0).trans (show _ = some (Value.slice E0 t0.length d0) from rfl); have y1 := (blk_cell K2.out 1).trans (show _ = some (Value.slice E1 t1.length d1) from rfl); have y2 := (blk_cell K2.out 2).trans (show _ = some (Value.slice E2 t2.length d2) from rfl); have z0 := (blk_cell K1.out 0).trans (show _ = some (Value.slice none 0 0) from rfl); have z1 := (blk_cell K1.out 1).trans (show _ = some (Value.slice none 0 0) from rfl); have z2 := (blk_cell K1.out 2).trans (show _ = some (Value.slice none 0 0) from rfl); have f0 := blk_frozen K1.out 0; have f1 := blk_frozen K1.out 1; have f2 := blk_frozen K1.out 2))
  refine bodyPost_ret (results_cell_row rfl _ _ (w.heap.size + 1) 26 #[.slice E0 t0.length d0, .slice E1 t1.length d1, .slice E2 t2.length d2] (0, 0) _ rfl (by refine blk_put (cs := #[.slice E0 t0.length d0, .slice E1 t1.length d1, .slice none 0 0]) ?_ 2 _ rfl; refine blk_put (cs := #[.slice E0 t0.length d0, .slice none 0 0, .slice none 0 0]) ?_ 1 _ rfl; refine blk_put (cs := #[.slice none 0 0, .slice none 0 0, .slice none 0 0]) ?_ 0 _ rfl; exact K1.out) Try.underlying26 rfl (by kernel_rfl)) rfl ?_
  have h1 := HS1.out
  have h3 := HS3.out
  have g4 := Z4.out
  have g5 := Z5.out
  have g6 := Z6.out
  have g7 := Z7.out
  have g8 := Z8.out
  have g9 := Z9.out
  have hsz : ∀ u0 u1 u2 : Value, (((w9.setCell ⟨w.heap.size + 1, 0, none⟩ u0).setCell ⟨w.heap.size + 1, 1, none⟩ u1).setCell ⟨w.heap.size + 1, 2, none⟩ u2).heap.size = w9.heap.size := fun u0 u1 u2 => by simp [World.setCell]
  refine ⟨_, _, _, w4.heap.size, w6.heap.size, rfl, ⟨by omega, by omega, by rw [hsz]; omega, ?_, ?_, ?_⟩, below_step HB0.out (below_set (below_set (below_set HB.out (by omega)) (by omega)) (by omega))⟩
  · exact Kd.S_lower (Kd.S_mono (Kd.S_move S0.out (fun k_ hk => heap_set3 (by have := hk.1; omega) _ _ _)) (fun k_ hk => hk.2)) (by omega)
  · exact Kd.S_lower (Kd.S_mono (Kd.S_move S1.out (fun k_ hk => heap_set3 (by have := hk.1; omega) _ _ _)) (fun k_ hk => ⟨by have := hk.1; omega, hk.2⟩)) (by omega)
  · exact Kd.R_lower (Kd.R_mono (Kd.R_move S2.out (fun k_ hk => heap_set3 (by have := hk.1; omega) _ _ _)) (fun k_ hk => ⟨by have := hk.1; omega, by rw [hsz]; have := hk.2; omega⟩)) (by omega)

def laws_FnExactPathFrom.f (k : Nat) (l0 : List S72) (l1 : List (List Int)) (l2 : List Int) (a b : Int) : Option Bool := (laws_szGraph.f k l0 l1 l2 1048576).bind fun z => if z < 0 then some true else
  (laws_toGraph.f k l0 l1 l2).bind fun g => (spec_PathFrom.f k g.1 g.2.1 g.2.2 a b).bind fun ws => (impl_PathFrom.f k g.1 g.2.1 g.2.2 a b).bind fun gs => (laws_eqIntS.f k gs.1 ws.1).bind fun e1 => (laws_eqGraph.f k g.1 g.2.1 g.2.2 g.1 g.2.1 g.2.2).bind fun e2 =>
  (laws_markGraph.f k g.1 g.2.1 g.2.2 1).bind fun mk => (laws_markIntS.f k gs.1 1).bind fun mb => (laws_heldIntS.f k mb.2 1).bind fun hb => if gs.2 = ws.2 ∧ e1 = true ∧ e2 = true ∧ ¬ mk < 0 ∧ ¬ hb < 0 ∧ hb = mb.1 then some true else none
structure RowsAt (w1 W : World) (vw vg : Value) (s1 s2 : Nat) (ws gs : List Int) : Prop where
  below : Below w1.heap.size w1 W
  rw_ : Kd.R (Kd.int .i64) 3 W w1.heap.size (fun k => k < s1) vw ws
  rg : Kd.R (Kd.int .i64) 3 W w1.heap.size (fun k => s2 < k) vg gs
theorem RowsAt.step {w1 W W' : World} {vw vg : Value} {s1 s2 : Nat} {ws gs : List Int} (h : RowsAt w1 W vw vg s1 s2 ws gs) (hb : Below W.heap.size W W') : RowsAt w1 W' vw vg s1 s2 ws gs :=
  ⟨below_step h.below hb, Kd.R_below h.rw_ hb, Kd.R_below h.rg hb⟩
structure GraphIn (w0 W : World) (bx m1 m2 s2 : Nat) (v0 v1 v2 : Value) (r1 : List S50) (r2 : List (List Int)) (r3 : List Int) : Prop where
  bel : Below w0.heap.size w0 W
  kx : W.heap[bx]? = some (.cells #[v0, v1, v2] 26 (0, 0))
  S0 : Kd.S k50 50 W w0.heap.size (fun k => k < m1) v0 r1
  S1 : Kd.S (Kd.slice 3 (Kd.int .i64)) 24 W w0.heap.size (fun k => m1 ≤ k ∧ k < m2) v1 r2
  S2 : Kd.R (Kd.int .i64) 3 W w0.heap.size (fun k => m2 ≤ k ∧ k < s2) v2 r3
theorem GraphIn.step {w0 W W' : World} {bx m1 m2 s2 : Nat} {v0 v1 v2 : Value} {r1 : List S50} {r2 : List (List Int)} {r3 : List Int} (h : GraphIn w0 W bx m1 m2 s2 v0 v1 v2 r1 r2 r3) (hb : Below W.heap.size W W') : GraphIn w0 W' bx m1 m2 s2 v0 v1 v2 r1 r2 r3 :=
  ⟨below_step h.bel hb, blk_below h.kx hb, Kd.S_below h.S0 hb, Kd.S_below h.S1 hb, Kd.R_below h.S2 hb⟩
theorem drawn_below {w W : World} (h : Drawn0 w W) : Below w.heap.size w W := by
  obtain ⟨nd, rfl⟩ := h
  exact pw_below_drewN (Below.refl _ _) nd
set_option maxHeartbeats 8000000 in
set_option maxRecDepth 100000 in
theorem laws_FnExactPathFrom.calls (k : Nat) (A0_0 : Option Addr) (c0_0 : Nat) (l0_0 : List (S72)) (A0_1 : Option Addr) (c0_1 : Nat) (l0_1 : List (List Int)) (A0_2 : Option Addr) (c0_2 : Nat) (l0_2 : List Int) (a b : Int) (r : Bool) (w : World) (hr0_0 : Kd.C k72 w A0_0 l0_0.length l0_0) (hc0_0 : l0_0.length ≤ c0_0) (hr0_1 : Kd.C (Kd.slice 3 (Kd.int .i64)) w A0_1 l0_1.length l0_1) (hc0_1 : l0_1.length ≤ c0_1) (hr0_2 : Kd.C (Kd.int .i64) w A0_2 l0_2.length l0_2) (hc0_2 : l0_2.length ≤ c0_2) (h : laws_FnExactPathFrom.f k l0_0 l0_1 l0_2 a b = some r) :
    Calls Try.prog 7 #[.agg #[.slice A0_0 l0_0.length c0_0, .slice A0_1 l0_1.length c0_1, .slice A0_2 l0_2.length c0_2], .int .i64 a, .int .i64 b] w fun e w' => e = .returned (.bool r) ∧ Below w.heap.size w w' := by
  obtain ⟨z, Fz, h⟩ := Option.bind_eq_some_iff.1 h
  obtain ⟨w1, hw1⟩ : ∃ w1, w1 = w.alloc (.cells #[.slice A0_0 l0_0.length c0_0, .slice A0_1 l0_1.length c0_1, .slice A0_2 l0_2.length c0_2] 34) := ⟨_, rfl⟩
  have hs1 : w1.heap.size = w.heap.size + 1 := by rw [hw1]; simp
  have hb1 : Below w.heap.size w w1 := by rw [hw1]; exact below_alloc (Below.refl _ _) _
  have hbx : w1.heap[w.heap.size]? = some (.cells #[.slice A0_0 l0_0.length c0_0, .slice A0_1 l0_1.length c0_1, .slice A0_2 l0_2.length c0_2] 34 (0, 0)) := by rw [hw1]; exact blk_new w _
  have C0 := Kd.C_below hr0_0 hb1
  have C1 := Kd.C_below hr0_1 hb1
  have C2 := Kd.C_below hr0_2 hb1
  have cz := laws_szGraph.calls k A0_0 c0_0 l0_0 A0_1 c0_1 l0_1 A0_2 c0_2 l0_2 1048576 z w1 C0 hc0_0 C1 hc0_1 C2 hc0_2 Fz
  have B1 := Aside0.mk hb1
  by_cases hz : z < 0
  · rw [if_pos hz] at h
    obtain rfl := Option.some.inj h
    have hzd : decide (z < 0) = true := decide_eq_true hz
    clear C0 C1 C2 hbx hr0_0 hr0_1 hr0_2 hc0_0 hc0_1 hc0_2 Fz hs1 hb1 h
    go_enter Try.func7, Try.ntmps7
    go_wp2_with (go_at_call 13; rw [← hw1]; refine cz.mono ?_; rintro e w2 ⟨rfl, hb2⟩; have B2 := Aside0.mk hb2; clear cz hb2)
    go_ret
    exact ⟨rfl, below_step B1.out B2.out⟩
  · rw [if_neg hz] at h
    obtain ⟨⟨r1, r2, r3⟩, FG, h⟩ := Option.bind_eq_some_iff.1 h
    obtain ⟨⟨ws, wb⟩, FS, h⟩ := Option.bind_eq_some_iff.1 h
    obtain ⟨⟨gs, gb⟩, FI, h⟩ := Option.bind_eq_some_iff.1 h
    obtain ⟨e1, FE, h⟩ := Option.bind_eq_some_iff.1 h
    obtain ⟨e2, FQ, h⟩ := Option.bind_eq_some_iff.1 h
    obtain ⟨mk, FM, h⟩ := Option.bind_eq_some_iff.1 h
    obtain ⟨⟨mb1, mb2⟩, FB, h⟩ := Option.bind_eq_some_iff.1 h
    obtain ⟨hb, FH, h⟩ := Option.bind_eq_some_iff.1 h
    by_cases hc : gb = wb ∧ e1 = true ∧ e2 = true ∧ ¬ mk < 0 ∧ ¬ hb < 0 ∧ hb = mb1
    · rw [if_pos hc] at h
      obtain rfl := Option.some.inj h
      obtain ⟨hgw, rfl, rfl, hmk, hhb, rfl⟩ := hc
      rw [hgw] at FI
      clear hgw
      -- the graph, made anew from the arguments, in any later world
      have tg : ∀ W, Below w1.heap.size w1 W → Calls Try.prog 15 #[.agg #[.slice A0_0 l0_0.length c0_0, .slice A0_1 l0_1.length c0_1, .slice A0_2 l0_2.length c0_2]] W fun e w' => ∃ (v0 v1 v2 : Value) (m1 m2 : Nat), e = .returned (.agg #[v0, v1, v2]) ∧ graphAt W w' m1 m2 v0 v1 v2 r1 r2 r3 ∧ Below W.heap.size W w' :=
        fun W hW => toGraph_apart k A0_0 c0_0 l0_0 A0_1 c0_1 l0_1 A0_2 c0_2 l0_2 r1 r2 r3 W (Kd.C_below C0 hW) hc0_0 (Kd.C_below C1 hW) hc0_1 (Kd.C_below C2 hW) hc0_2 FG
      have par : ∀ {W : World} (j : Nat), Below w1.heap.size w1 W → W.cell? ⟨w.heap.size, j, none⟩ = (#[.slice A0_0 l0_0.length c0_0, .slice A0_1 l0_1.length c0_1, .slice A0_2 l0_2.length c0_2] : Array Value)[j]? := fun j hb => (hb.cell (p := ⟨w.heap.size, j, none⟩) (by show w.heap.size < _; omega)).trans (blk_cell hbx j)
      have TG := Aside0.mk tg
      have PAR := Aside0.mk @par
      have AS := Aside0.mk FS
      have AI := Aside0.mk FI
      have AE := Aside0.mk FE
      have AQ := Aside0.mk FQ
      have AM := Aside0.mk FM
      have AB := Aside0.mk FB
      have AH := Aside0.mk FH
      have hzd : decide (z < 0) = false := decide_eq_false hz
      have hmd : decide (mk < 0) = false := decide_eq_false hmk
      have hhd : decide (hb < 0) = false := decide_eq_false hhb
      clear C0 C1 C2 hbx hr0_0 hr0_1 hr0_2 hc0_0 hc0_1 hc0_2 Fz hs1 hb1 h FG FS FI FE FQ FM FB FH tg par hz hmk hhb
      have nb : (wb != wb) = false := bne_self_eq_false wb
      have T1 := Aside0.mk trivial
      have T2 := Aside0.mk trivial
      have T4 := Aside0.mk trivial
      go_enter Try.func7, Try.ntmps7
      go_wp2_with (first
        | (go_at_call 13; rw [← hw1]; refine cz.mono ?_; rintro e w2 ⟨rfl, hb2⟩; have B2 := Aside0.mk hb2; have q0 := (PAR.out 0 hb2).trans (show _ = some (Value.slice A0_0 l0_0.length c0_0) from rfl); have q1 := (PAR.out 1 hb2).trans (show _ = some (Value.slice A0_1 l0_1.length c0_1) from rfl); have q2 := (PAR.out 2 hb2).trans (show _ = some (Value.slice A0_2 l0_2.length c0_2) from rfl); clear cz hb2)
        | (clear T1; go_at_call 15; refine (TG.out w2 B2.out).mono ?_; rintro e w3 ⟨t0, t1, t2, n1, n2, rfl, hga, hb3⟩; obtain ⟨_, _, _, hS0, hS1, hS2⟩ := hga; obtain ⟨E0, d0, e0, le0, ce0⟩ := Kd.S_reads hS0; obtain ⟨E1, d1, e1_, le1, ce1⟩ := Kd.S_reads hS1; obtain ⟨E2, d2, e2_, le2, ce2⟩ := Kd.R_reads hS2; subst e0; subst e1_; subst e2_; have cs := spec_PathFrom.calls k E0 d0 r1 E1 d1 r2 E2 d2 r3 a b ws wb w3 ce0 le0 ce1 le1 ce2 le2 AS.out; have B3 := Aside0.mk (below_step B2.out hb3); clear hS0 hS1 hS2 le0 le1 le2 ce0 ce1 ce2 hb3 q0 q1 q2)
        | (go_at_call 27; refine cs.mono ?_; rintro e w4 ⟨vw, rfl, hrw, hb4⟩; have B4 := Aside0.mk (below_step B3.out hb4); obtain ⟨Aw, dw, ew⟩ := Kd.R_slice hrw; subst ew; have RW := Aside0.mk (Kd.R_lower (Kd.R_mono (ok' := fun k_ => k_ < w4.heap.size) (Kd.R_bound hrw) (fun k_ hk => hk.2.2.1)) B3.out.size); have q0 := (PAR.out 0 B4.out).trans (show _ = some (Value.slice A0_0 l0_0.length c0_0) from rfl); have q1 := (PAR.out 1 B4.out).trans (show _ = some (Value.slice A0_1 l0_1.length c0_1) from rfl); have q2 := (PAR.out 2 B4.out).trans (show _ = some (Value.slice A0_2 l0_2.length c0_2) from rfl); clear cs hrw hb4)
        | (clear T2; go_at_call 15; refine (TG.out w4 B4.out).mono ?_; rintro e w5 ⟨t0, t1, t2, m1, m2, rfl, hga, hb5⟩; obtain ⟨hm1, hm2, hm3, hS0, hS1, hS2⟩ := hga; obtain ⟨X0, x0_, f0_⟩ := Kd.S_slice hS0; obtain ⟨X1, x1_, f1_⟩ := Kd.S_slice hS1; obtain ⟨X2, x2_, f2_⟩ := Kd.R_slice hS2; subst f0_; subst f1_; subst f2_; have M := Aside0.mk (And.intro hm1 (And.intro hm2 hm3)); have S0 := Aside0.mk hS0; have S1 := Aside0.mk hS1; have S2 := Aside0.mk hS2; have B5 := Aside0.mk hb5; clear hm1 hm2 hm3 hS0 hS1 hS2 hb5 q0 q1 q2; have GI := Aside0.mk (show GraphIn w4 (w5.alloc (.cells #[.slice X0 r1.length x0_, .slice X1 r2.length x1_, .slice X2 r3.length x2_] 26)) w5.heap.size m1 m2 w5.heap.size (.slice X0 r1.length x0_) (.slice X1 r2.length x1_) (.slice X2 r3.length x2_) r1 r2 r3 from ⟨below_alloc B5.out _, blk_new w5 _, Kd.S_alloc S0.out _, Kd.S_alloc S1.out _, Kd.R_alloc S2.out _⟩); obtain ⟨w6, hw6⟩ : ∃ w6, w6 = w5.alloc (.cells #[.slice X0 r1.length x0_, .slice X1 r2.length x1_, .slice X2 r3.length x2_] 26) := ⟨_, rfl⟩; rw [← hw6] at GI; have ci := impl_PathFrom.calls k X0 x0_ r1 X1 x1_ r2 X2 x2_ r3 a b gs wb w6 (Kd.S_reads' GI.out.S0).2.2 (Kd.S_reads' GI.out.S0).2.1 (Kd.S_reads' GI.out.S1).2.2 (Kd.S_reads' GI.out.S1).2.1 (Kd.R_reads' GI.out.S2).2.2 (Kd.R_reads' GI.out.S2).2.1 AI.out; have W6 := Aside0.mk hw6; have B6 := Aside0.mk (show Below w4.heap.size w4 w6 from by rw [hw6]; exact below_alloc B5.out _); have Z6 := Aside0.mk (show w5.heap.size < w6.heap.size from by rw [hw6]; simp); clear S0 S1 S2 hw6)
        | (clear T4; go_at_call 28; rw [← W6.out]; refine ci.mono ?_; rintro e w7 ⟨vg, rfl, hrg, hb7⟩; obtain ⟨Ag, dg, eg⟩ := Kd.R_slice hrg; subst eg; have RA := Aside0.mk (show RowsAt w1 w7 (.slice Aw ws.length dw) (.slice Ag gs.length dg) w4.heap.size w5.heap.size ws gs from ⟨below_step (below_step B4.out B6.out) hb7, Kd.R_below (Kd.R_below RW.out B6.out) hb7, Kd.R_lower (Kd.R_mono (Kd.R_bound hrg) (fun k_ hk => Nat.lt_of_lt_of_le Z6.out hk.2.1)) (below_step B4.out B6.out).size⟩); have GI7 := Aside0.mk (GI.out.step hb7); clear GI RW hrg hb7 ci; have GI := GI7; clear GI7; have ce := laws_eqIntS.calls k _ _ gs _ _ ws true w7 (Kd.R_reads' RA.out.rg).2.2 (Kd.R_reads' RA.out.rg).2.1 (Kd.R_reads' RA.out.rw_).2.2 (Kd.R_reads' RA.out.rw_).2.1 AE.out)
        | (go_at_call 24; refine ce.mono ?_; rintro e w8 ⟨rfl, hd⟩; have hb8 := drawn_below hd; have RA8 := Aside0.mk (RA.out.step hb8); have GI8 := Aside0.mk (GI.out.step hb8); clear RA GI hd hb8 ce; have RA := RA8; have GI := GI8; clear RA8 GI8; have q0 := (PAR.out 0 RA.out.below).trans (show _ = some (Value.slice A0_0 l0_0.length c0_0) from rfl); have q1 := (PAR.out 1 RA.out.below).trans (show _ = some (Value.slice A0_1 l0_1.length c0_1) from rfl); have q2 := (PAR.out 2 RA.out.below).trans (show _ = some (Value.slice A0_2 l0_2.length c0_2) from rfl); have y0 := (blk_cell GI.out.kx 0).trans (show _ = some (Value.slice X0 r1.length x0_) from rfl); have y1 := (blk_cell GI.out.kx 1).trans (show _ = some (Value.slice X1 r2.length x1_) from rfl); have y2 := (blk_cell GI.out.kx 2).trans (show _ = some (Value.slice X2 r3.length x2_) from rfl)))
      go_region_with (first
        | (go_at_call 15; refine (TG.out _ (below_step RA.out.below (by repeat (first | exact Below.refl _ _ | apply below_drew1 | apply pw_below_drewN)))).mono ?_; rintro e w9 ⟨t0, t1, t2, n1, n2, rfl, hga, hb9⟩; obtain ⟨_, _, _, hS0, hS1, hS2⟩ := hga; obtain ⟨E4, d4, e0, le0, ce0⟩ := Kd.S_reads hS0; obtain ⟨E5, d5, e1_, le1, ce1⟩ := Kd.S_reads hS1; obtain ⟨E6, d6, e2_, le2, ce2⟩ := Kd.R_reads hS2; subst e0; subst e1_; subst e2_; have hb9' := below_step (show Below w8.heap.size w8 _ from (by repeat (first | exact Below.refl _ _ | apply below_drew1 | apply pw_below_drewN))) hb9; have RA9 := Aside0.mk (RA.out.step hb9'); have GI9 := Aside0.mk (GI.out.step hb9'); clear RA GI q0 q1 q2 y0 y1 y2; have RA := RA9; have GI := GI9; clear RA9 GI9; have y0 := (blk_cell GI.out.kx 0).trans (show _ = some (Value.slice X0 r1.length x0_) from rfl); have y1 := (blk_cell GI.out.kx 1).trans (show _ = some (Value.slice X1 r2.length x1_) from rfl); have y2 := (blk_cell GI.out.kx 2).trans (show _ = some (Value.slice X2 r3.length x2_) from rfl); have cq := laws_eqGraph.calls k X0 x0_ r1 X1 x1_ r2 X2 x2_ r3 E4 d4 r1 E5 d5 r2 E6 d6 r3 true w9 (Kd.S_reads' GI.out.S0).2.2 (Kd.S_reads' GI.out.S0).2.1 (Kd.S_reads' GI.out.S1).2.2 (Kd.S_reads' GI.out.S1).2.1 (Kd.R_reads' GI.out.S2).2.2 (Kd.R_reads' GI.out.S2).2.1 ce0 le0 ce1 le1 ce2 le2 AQ.out; clear hS0 hS1 hS2 le0 le1 le2 ce0 ce1 ce2 hb9 hb9')
        | (go_at_call 10; refine cq.mono ?_; rintro e w10 ⟨rfl, hb10⟩; have RA10 := Aside0.mk (RA.out.step hb10); have GI10 := Aside0.mk (GI.out.step hb10); clear RA GI cq hb10 y0 y1 y2; have RA := RA10; have GI := GI10; clear RA10 GI10; have y0 := (blk_cell GI.out.kx 0).trans (show _ = some (Value.slice X0 r1.length x0_) from rfl); have y1 := (blk_cell GI.out.kx 1).trans (show _ = some (Value.slice X1 r2.length x1_) from rfl); have y2 := (blk_cell GI.out.kx 2).trans (show _ = some (Value.slice X2 r3.length x2_) from rfl); have hm := M.out; have cm := laws_markGraph.calls k m1 m2 _ _ _ r1 r2 r3 1 mk w5.heap.size w4 w10 GI.out.bel hm.1 hm.2.1 hm.2.2 (by have z1 := Z6.out; have z2 := Kd.R_lt RA.out.rg; have z3 := blk_lt GI.out.kx; omega) GI.out.S0 GI.out.S1 GI.out.S2 AM.out; clear hm))
      all_goals
        have T5 := Aside0.mk trivial
        have T6 := Aside0.mk trivial
        have T7 := Aside0.mk trivial
        have T8 := Aside0.mk trivial
        go_wp2_with (first
          | (go_at_call 11; refine cm.mono ?_; rintro e w11 ⟨rfl, hb11, hk11⟩; have RA11 := Aside0.mk (show RowsAt w1 w11 (.slice Aw ws.length dw) (.slice Ag gs.length dg) w4.heap.size w5.heap.size ws gs from ⟨below_step B4.out hb11, Kd.R_kept RA.out.rw_ hk11 (fun k_ a1 a2 => by omega), Kd.R_kept RA.out.rg hk11 (fun k_ a1 a2 => by omega)⟩); clear RA GI cm hb11 hk11 y0 y1 y2; have RA := RA11; clear RA11; have ce := laws_eqIntS.calls k _ _ gs _ _ ws true w11 (Kd.R_reads' RA.out.rg).2.2 (Kd.R_reads' RA.out.rg).2.1 (Kd.R_reads' RA.out.rw_).2.2 (Kd.R_reads' RA.out.rw_).2.1 AE.out)
          | (clear T5; go_at_call 24; refine ce.mono ?_; rintro e w12 ⟨rfl, hd⟩; have RA12 := Aside0.mk (RA.out.step (drawn_below hd)); clear RA hd ce; have RA := RA12; clear RA12; have cb := laws_markIntS.calls k (fun k_ => w5.heap.size < k_) _ gs 1 hb mb2 w1 w12 RA.out.below RA.out.rg AB.out)
          | (go_at_call 25; refine cb.mono ?_; rintro e w13 ⟨rfl, hR, hB13, hK13⟩; have hm := M.out; have RA13 := Aside0.mk (show RowsAt w1 w13 (.slice Aw ws.length dw) (.slice Ag gs.length dg) w4.heap.size w5.heap.size ws mb2 from ⟨hB13, Kd.R_kept RA.out.rw_ hK13 (fun k_ a1 a2 => by have := hm.1; have := hm.2.1; have := hm.2.2; omega), Kd.R_reok rfl hR (fun k_ hk => RA.out.rg.1 k_ hk)⟩); have lg := Aside0.mk ((Kd.R_reads' RA13.out.rg).1); clear RA cb hR hB13 hK13 hm; have RA := RA13; clear RA13; have ch := laws_heldIntS.calls k Ag dg mb2 1 hb w13 (Kd.R_reads' RA.out.rg).2.2 (by have := (Kd.R_reads' RA.out.rg).2.1; rw [← lg.out]; exact this) AH.out; rw [← lg.out] at ch)
          | (clear T6; go_at_call 26; refine ch.mono ?_; rintro e w14 ⟨rfl, hd⟩; have RA14 := Aside0.mk (RA.out.step (drawn_below hd)); clear RA hd ch; have RA := RA14; clear RA14; have q0 := (PAR.out 0 RA.out.below).trans (show _ = some (Value.slice A0_0 l0_0.length c0_0) from rfl); have q1 := (PAR.out 1 RA.out.below).trans (show _ = some (Value.slice A0_1 l0_1.length c0_1) from rfl); have q2 := (PAR.out 2 RA.out.below).trans (show _ = some (Value.slice A0_2 l0_2.length c0_2) from rfl))
          | (go_at_call 15; refine (TG.out w14 RA.out.below).mono ?_; rintro e w15 ⟨t0, t1, t2, n1, n2, rfl, hga, hb15⟩; obtain ⟨_, _, _, hS0, hS1, hS2⟩ := hga; obtain ⟨E7, d7, e0, le0, ce0⟩ := Kd.S_reads hS0; obtain ⟨E8, d8, e1_, le1, ce1⟩ := Kd.S_reads hS1; obtain ⟨E9, d9, e2_, le2, ce2⟩ := Kd.R_reads hS2; subst e0; subst e1_; subst e2_; have ci2 := impl_PathFrom.calls k E7 d7 r1 E8 d8 r2 E9 d9 r3 a b gs wb w15 ce0 le0 ce1 le1 ce2 le2 AI.out; have RA15 := Aside0.mk (RA.out.step hb15); clear RA hS0 hS1 hS2 le0 le1 le2 ce0 ce1 ce2 hb15 q0 q1 q2; have RA := RA15; clear RA15)
          | (go_at_call 28; refine ci2.mono ?_; rintro e w16 ⟨vh, rfl, hrh, hb16⟩; obtain ⟨Ah, dh, eh, leh, ceh⟩ := Kd.R_reads hrh; subst eh; have RA16 := Aside0.mk (RA.out.step hb16); clear RA ci2 hrh hb16; have RA := RA16; clear RA16; have ce := laws_eqIntS.calls k _ _ gs _ _ ws true w16 ceh leh (Kd.R_reads' RA.out.rw_).2.2 (Kd.R_reads' RA.out.rw_).2.1 AE.out; clear ceh leh)
          | (clear T7; go_at_call 24; refine ce.mono ?_; rintro e w17 ⟨rfl, hd⟩; have RA17 := Aside0.mk (RA.out.step (drawn_below hd)); clear RA hd ce; have RA := RA17; clear RA17; have ch := laws_heldIntS.calls k Ag dg mb2 1 hb w17 (Kd.R_reads' RA.out.rg).2.2 (by have := (Kd.R_reads' RA.out.rg).2.1; rw [← lg.out]; exact this) AH.out; rw [← lg.out] at ch)
          | (clear T8; go_at_call 26; refine ch.mono ?_; rintro e w18 ⟨rfl, hd⟩; have RA18 := Aside0.mk (RA.out.step (drawn_below hd)); clear RA hd ch; have RA := RA18; clear RA18))
        go_ret
        exact ⟨rfl, below_step B1.out RA.out.below⟩
    · rw [if_neg hc] at h
      cases h

end Go.Proofs.Ytdaikmojalfimaa.QFnExactPathFrom
