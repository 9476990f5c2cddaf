-- Written by a program of this session that drives the print of the kit, with contracts of its own beside the printed ones. Lean checks it.
import Derived.Test.YtfonbakjfajbcaaQFnExactTableRoomx0
import Derived.Test.YtfonbakjfajbcaaQFnExactTableRoomx1
import Derived.Test.YtfonbakjfajbcaaQFnExactTableRoomx3
namespace Go.Proofs.Ytfonbakjfajbcaa.QFnExactTableRoom
open Go.RowKit Go.Proofs.YtfonbakjfajbcaaW.PrintWords Go.Proofs.YtfonbakjfajbcaaW.PrintLast Go.Proofs.YtfonbakjfajbcaaW.PrintMore
attribute [local go_sem] max2_int min2_int max_two min_two max_three min_three max_four min_four   -- for this text's walks alone
set_option linter.unusedVariables false
set_option linter.unusedSimpArgs false

attribute [local go_sem high] eqA41
/-! ### spec_TableOk: function 15 -/
mutual
def spec_TableOk.j0 : Nat → List (S41) → Bool → Option (Bool)
  | 0, _, _ => none
  | k + 1, x0, x21 => if x21 = true then (some false) else (spec_TableOk.l0 k x0 1)
def spec_TableOk.l0 : Nat → List (S41) → Int → Option (Bool)
  | 0, _, _ => none
  | k + 1, x0, x3 => if x3 < (x0.length : Int) then (if 0 ≤ x3 then ((spec_RegionBase.f x3).bind fun t132 => (if ((rd_T41 x0 x3).f0) < 1 then (spec_TableOk.j2 k x0 x3 t132 true ((rd_T41 x0 x3).f0) ((rd_T41 x0 x3).f1) ((rd_T41 x0 x3).f2) ((rd_T41 x0 x3).f3) ((rd_T41 x0 x3).f4)) else (if ((rd_T41 x0 x3).f0) > 4 then (spec_TableOk.j2 k x0 x3 t132 true ((rd_T41 x0 x3).f0) ((rd_T41 x0 x3).f1) ((rd_T41 x0 x3).f2) ((rd_T41 x0 x3).f3) ((rd_T41 x0 x3).f4)) else (if ((rd_T41 x0 x3).f2) < t132 then (spec_TableOk.j2 k x0 x3 t132 true ((rd_T41 x0 x3).f0) ((rd_T41 x0 x3).f1) ((rd_T41 x0 x3).f2) ((rd_T41 x0 x3).f3) ((rd_T41 x0 x3).f4)) else (if ((rd_T41 x0 x3).f2) > (wrap64 (t132 + 16)) then (spec_TableOk.j2 k x0 x3 t132 true ((rd_T41 x0 x3).f0) ((rd_T41 x0 x3).f1) ((rd_T41 x0 x3).f2) ((rd_T41 x0 x3).f3) ((rd_T41 x0 x3).f4)) else (if ((rd_T41 x0 x3).f3) < t132 then (spec_TableOk.j2 k x0 x3 t132 true ((rd_T41 x0 x3).f0) ((rd_T41 x0 x3).f1) ((rd_T41 x0 x3).f2) ((rd_T41 x0 x3).f3) ((rd_T41 x0 x3).f4)) else (if ((rd_T41 x0 x3).f3) > ((rd_T41 x0 x3).f2) then (spec_TableOk.j2 k x0 x3 t132 true ((rd_T41 x0 x3).f0) ((rd_T41 x0 x3).f1) ((rd_T41 x0 x3).f2) ((rd_T41 x0 x3).f3) ((rd_T41 x0 x3).f4)) else (if ((rd_T41 x0 x3).f4) < 0 then (spec_TableOk.j2 k x0 x3 t132 true ((rd_T41 x0 x3).f0) ((rd_T41 x0 x3).f1) ((rd_T41 x0 x3).f2) ((rd_T41 x0 x3).f3) ((rd_T41 x0 x3).f4)) else (spec_TableOk.j2 k x0 x3 t132 (decide (((rd_T41 x0 x3).f4) > (wrap64 (((rd_T41 x0 x3).f2) - t132)))) ((rd_T41 x0 x3).f0) ((rd_T41 x0 x3).f1) ((rd_T41 x0 x3).f2) ((rd_T41 x0 x3).f3) ((rd_T41 x0 x3).f4)))))))))) else (none)) else (some true)
def spec_TableOk.j2 : Nat → List (S41) → Int → Int → Bool → Int → Int → Int → Int → Int → Option (Bool)
  | 0, _, _, _, _, _, _, _, _, _ => none
  | k + 1, x0, x3, x5, x81, x132000, x132001, x132002, x132003, x132004 => if x81 = true then (some false) else (if x132000 = 1 then (spec_TableOk.j3 k x0 x3 (x132002 != x5) x132000 x132001 x132002 x132003 x132004) else (spec_TableOk.j3 k x0 x3 false x132000 x132001 x132002 x132003 x132004))
def spec_TableOk.j3 : Nat → List (S41) → Int → Bool → Int → Int → Int → Int → Int → Option (Bool)
  | 0, _, _, _, _, _, _, _, _ => none
  | k + 1, x0, x3, x90, x132000, x132001, x132002, x132003, x132004 => if x90 = true then (some false) else (if ((x132000 == 2) != (decide (x132001 ≥ 0))) = true then (spec_TableOk.j4 k x0 x3 true x132000 x132001 x132002 x132003 x132004) else (if x132001 < (-1) then (spec_TableOk.j4 k x0 x3 true x132000 x132001 x132002 x132003 x132004) else (spec_TableOk.j4 k x0 x3 (decide (x132001 > 3)) x132000 x132001 x132002 x132003 x132004)))
def spec_TableOk.j4 : Nat → List (S41) → Int → Bool → Int → Int → Int → Int → Int → Option (Bool)
  | 0, _, _, _, _, _, _, _, _ => none
  | k + 1, x0, x3, x107, x132000, x132001, x132002, x132003, x132004 => if x107 = true then (some false) else (spec_TableOk.l1 k x0 x3 1 x132000 x132001 x132002 x132003 x132004)
def spec_TableOk.l1 : Nat → List (S41) → Int → Int → Int → Int → Int → Int → Int → Option (Bool)
  | 0, _, _, _, _, _, _, _, _ => none
  | k + 1, x0, x3, x6, x132000, x132001, x132002, x132003, x132004 => if x6 < x3 then (if x132001 ≥ 0 then (if 0 ≤ x6 then (if x6 < (x0.length : Int) then (if ((rd_T41 x0 x6).f1) = x132001 then (some false) else (spec_TableOk.l1 k x0 x3 (wrap64 (x6 + 1)) x132000 x132001 x132002 x132003 x132004)) else (none)) else (none)) else (spec_TableOk.l1 k x0 x3 (wrap64 (x6 + 1)) x132000 x132001 x132002 x132003 x132004)) else (spec_TableOk.l0 k x0 (wrap64 (x3 + 1)))
end
def spec_TableOk.f (k : Nat) (l0 : List (S41)) : Option (Bool) := if (l0.length : Int) < 2 then (spec_TableOk.j0 k l0 true) else (if (l0.length : Int) > 12 then (spec_TableOk.j0 k l0 true) else (if 0 < (l0.length : Int) then (spec_TableOk.j0 k l0 (!(((rd_T41 l0 0).f0) == 0) || (!(((rd_T41 l0 0).f1) == (-1)) || (!(((rd_T41 l0 0).f2) == 0) || (!(((rd_T41 l0 0).f3) == 0) || (!(((rd_T41 l0 0).f4) == 0))))))) else (none)))
theorem spec_TableOk.mono_l : ∀ k, (∀ y0 y1, LeO (spec_TableOk.j0 k y0 y1) (spec_TableOk.j0 (k + 1) y0 y1)) ∧ (∀ y0 y1, LeO (spec_TableOk.l0 k y0 y1) (spec_TableOk.l0 (k + 1) y0 y1)) ∧ (∀ y0 y1 y2 y3 y4 y5 y6 y7 y8, LeO (spec_TableOk.j2 k y0 y1 y2 y3 y4 y5 y6 y7 y8) (spec_TableOk.j2 (k + 1) y0 y1 y2 y3 y4 y5 y6 y7 y8)) ∧ (∀ y0 y1 y2 y3 y4 y5 y6 y7, LeO (spec_TableOk.j3 k y0 y1 y2 y3 y4 y5 y6 y7) (spec_TableOk.j3 (k + 1) y0 y1 y2 y3 y4 y5 y6 y7)) ∧ (∀ y0 y1 y2 y3 y4 y5 y6 y7, LeO (spec_TableOk.j4 k y0 y1 y2 y3 y4 y5 y6 y7) (spec_TableOk.j4 (k + 1) y0 y1 y2 y3 y4 y5 y6 y7)) ∧ (∀ y0 y1 y2 y3 y4 y5 y6 y7, LeO (spec_TableOk.l1 k y0 y1 y2 y3 y4 y5 y6 y7) (spec_TableOk.l1 (k + 1) y0 y1 y2 y3 y4 y5 y6 y7))
  | 0 => ⟨fun _ _ r h => by simp [spec_TableOk.j0] at h, fun _ _ r h => by simp [spec_TableOk.l0] at h, fun _ _ _ _ _ _ _ _ _ r h => by simp [spec_TableOk.j2] at h, fun _ _ _ _ _ _ _ _ r h => by simp [spec_TableOk.j3] at h, fun _ _ _ _ _ _ _ _ r h => by simp [spec_TableOk.j4] at h, fun _ _ _ _ _ _ _ _ r h => by simp [spec_TableOk.l1] at h⟩
  | k + 1 => by
    obtain ⟨ih0, ih1, ih2, ih3, ih4, ih5⟩ := spec_TableOk.mono_l k
    refine ⟨?_, ?_, ?_, ?_, ?_, ?_⟩
    · intro y0 y1
      unfold spec_TableOk.j0
      repeat' first
      | (with_reducible exact ih0 _ _)
      | (with_reducible exact ih1 _ _)
      | (with_reducible exact ih2 _ _ _ _ _ _ _ _ _)
      | (with_reducible exact ih3 _ _ _ _ _ _ _ _)
      | (with_reducible exact ih4 _ _ _ _ _ _ _ _)
      | (with_reducible exact ih5 _ _ _ _ _ _ _ _)
      | (with_reducible exact LeO.refl _)
      | (with_reducible exact LeO.none _)
      | (with_reducible refine LeO.ite ?_ ?_)
      | (with_reducible refine LeO.bind ?_ (fun _ => ?_))
      | exact ih0 _ _
      | exact ih1 _ _
      | exact ih2 _ _ _ _ _ _ _ _ _
      | exact ih3 _ _ _ _ _ _ _ _
      | exact ih4 _ _ _ _ _ _ _ _
      | exact ih5 _ _ _ _ _ _ _ _
      | exact LeO.none _
      | refine LeO.ite ?_ ?_
      | refine LeO.bind ?_ (fun _ => ?_)
    · intro y0 y1
      unfold spec_TableOk.l0
      repeat' first
      | (with_reducible exact ih0 _ _)
      | (with_reducible exact ih1 _ _)
      | (with_reducible exact ih2 _ _ _ _ _ _ _ _ _)
      | (with_reducible exact ih3 _ _ _ _ _ _ _ _)
      | (with_reducible exact ih4 _ _ _ _ _ _ _ _)
      | (with_reducible exact ih5 _ _ _ _ _ _ _ _)
      | (with_reducible exact LeO.refl _)
      | (with_reducible exact LeO.none _)
      | (with_reducible refine LeO.ite ?_ ?_)
      | (with_reducible refine LeO.bind ?_ (fun _ => ?_))
      | exact ih0 _ _
      | exact ih1 _ _
      | exact ih2 _ _ _ _ _ _ _ _ _
      | exact ih3 _ _ _ _ _ _ _ _
      | exact ih4 _ _ _ _ _ _ _ _
      | exact ih5 _ _ _ _ _ _ _ _
      | exact LeO.none _
      | refine LeO.ite ?_ ?_
      | refine LeO.bind ?_ (fun _ => ?_)
    · intro y0 y1 y2 y3 y4 y5 y6 y7 y8
      unfold spec_TableOk.j2
      repeat' first
      | (with_reducible exact ih0 _ _)
      | (with_reducible exact ih1 _ _)
      | (with_reducible exact ih2 _ _ _ _ _ _ _ _ _)
      | (with_reducible exact ih3 _ _ _ _ _ _ _ _)
      | (with_reducible exact ih4 _ _ _ _ _ _ _ _)
      | (with_reducible exact ih5 _ _ _ _ _ _ _ _)
      | (with_reducible exact LeO.refl _)
      | (with_reducible exact LeO.none _)
      | (with_reducible refine LeO.ite ?_ ?_)
      | (with_reducible refine LeO.bind ?_ (fun _ => ?_))
      | exact ih0 _ _
      | exact ih1 _ _
      | exact ih2 _ _ _ _ _ _ _ _ _
      | exact ih3 _ _ _ _ _ _ _ _
      | exact ih4 _ _ _ _ _ _ _ _
      | exact ih5 _ _ _ _ _ _ _ _
      | exact LeO.none _
      | refine LeO.ite ?_ ?_
      | refine LeO.bind ?_ (fun _ => ?_)
    · intro y0 y1 y2 y3 y4 y5 y6 y7
      unfold spec_TableOk.j3
      repeat' first
      | (with_reducible exact ih0 _ _)
      | (with_reducible exact ih1 _ _)
      | (with_reducible exact ih2 _ _ _ _ _ _ _ _ _)
      | (with_reducible exact ih3 _ _ _ _ _ _ _ _)
      | (with_reducible exact ih4 _ _ _ _ _ _ _ _)
      | (with_reducible exact ih5 _ _ _ _ _ _ _ _)
      | (with_reducible exact LeO.refl _)
      | (with_reducible exact LeO.none _)
      | (with_reducible refine LeO.ite ?_ ?_)
      | (with_reducible refine LeO.bind ?_ (fun _ => ?_))
      | exact ih0 _ _
      | exact ih1 _ _
      | exact ih2 _ _ _ _ _ _ _ _ _
      | exact ih3 _ _ _ _ _ _ _ _
      | exact ih4 _ _ _ _ _ _ _ _
      | exact ih5 _ _ _ _ _ _ _ _
      | exact LeO.none _
      | refine LeO.ite ?_ ?_
      | refine LeO.bind ?_ (fun _ => ?_)
    · intro y0 y1 y2 y3 y4 y5 y6 y7
      unfold spec_TableOk.j4
      repeat' first
      | (with_reducible exact ih0 _ _)
      | (with_reducible exact ih1 _ _)
      | (with_reducible exact ih2 _ _ _ _ _ _ _ _ _)
      | (with_reducible exact ih3 _ _ _ _ _ _ _ _)
      | (with_reducible exact ih4 _ _ _ _ _ _ _ _)
      | (with_reducible exact ih5 _ _ _ _ _ _ _ _)
      | (with_reducible exact LeO.refl _)
      | (with_reducible exact LeO.none _)
      | (with_reducible refine LeO.ite ?_ ?_)
      | (with_reducible refine LeO.bind ?_ (fun _ => ?_))
      | exact ih0 _ _
      | exact ih1 _ _
      | exact ih2 _ _ _ _ _ _ _ _ _
      | exact ih3 _ _ _ _ _ _ _ _
      | exact ih4 _ _ _ _ _ _ _ _
      | exact ih5 _ _ _ _ _ _ _ _
      | exact LeO.none _
      | refine LeO.ite ?_ ?_
      | refine LeO.bind ?_ (fun _ => ?_)
    · intro y0 y1 y2 y3 y4 y5 y6 y7
      unfold spec_TableOk.l1
      repeat' first
      | (with_reducible exact ih0 _ _)
      | (with_reducible exact ih1 _ _)
      | (with_reducible exact ih2 _ _ _ _ _ _ _ _ _)
      | (with_reducible exact ih3 _ _ _ _ _ _ _ _)
      | (with_reducible exact ih4 _ _ _ _ _ _ _ _)
      | (with_reducible exact ih5 _ _ _ _ _ _ _ _)
      | (with_reducible exact LeO.refl _)
      | (with_reducible exact LeO.none _)
      | (with_reducible refine LeO.ite ?_ ?_)
      | (with_reducible refine LeO.bind ?_ (fun _ => ?_))
      | exact ih0 _ _
      | exact ih1 _ _
      | exact ih2 _ _ _ _ _ _ _ _ _
      | exact ih3 _ _ _ _ _ _ _ _
      | exact ih4 _ _ _ _ _ _ _ _
      | exact ih5 _ _ _ _ _ _ _ _
      | exact LeO.none _
      | refine LeO.ite ?_ ?_
      | refine LeO.bind ?_ (fun _ => ?_)
theorem spec_TableOk.mono : ∀ a0 k, LeO (spec_TableOk.f k a0) (spec_TableOk.f (k + 1) a0) := by
  intro a0 k
  obtain ⟨ih0, ih1, ih2, ih3, ih4, ih5⟩ := spec_TableOk.mono_l k
  unfold spec_TableOk.f
  repeat' first
      | (with_reducible exact ih0 _ _)
      | (with_reducible exact ih1 _ _)
      | (with_reducible exact ih2 _ _ _ _ _ _ _ _ _)
      | (with_reducible exact ih3 _ _ _ _ _ _ _ _)
      | (with_reducible exact ih4 _ _ _ _ _ _ _ _)
      | (with_reducible exact ih5 _ _ _ _ _ _ _ _)
      | (with_reducible exact LeO.refl _)
      | (with_reducible exact LeO.none _)
      | (with_reducible refine LeO.ite ?_ ?_)
      | (with_reducible refine LeO.bind ?_ (fun _ => ?_))
      | exact ih0 _ _
      | exact ih1 _ _
      | exact ih2 _ _ _ _ _ _ _ _ _
      | exact ih3 _ _ _ _ _ _ _ _
      | exact ih4 _ _ _ _ _ _ _ _
      | exact ih5 _ _ _ _ _ _ _ _
      | exact LeO.none _
      | refine LeO.ite ?_ ?_
      | refine LeO.bind ?_ (fun _ => ?_)
set_option maxHeartbeats 8000000 in
set_option maxRecDepth 100000 in
theorem spec_TableOk.calls (k : Nat) (A0 : Option Addr) (c0 : Nat) (l0 : List (S41)) (r : Bool) (w : World) (hr0 : Kd.C k41 w A0 l0.length l0) (hc0 : l0.length ≤ c0) (h : spec_TableOk.f k l0 = some r) :
    Calls Try.prog 15 #[.slice A0 l0.length c0] w fun e w' => e = .returned (.bool r) ∧ Below w.heap.size w w' := by
  have hu41 := Try.underlying41
  have HR0 := Aside0.mk hr0
  have HC0 := Aside0.mk hc0
  clear hr0 hc0
  have HB := Aside0.mk (Below.refl w.heap.size w)
  have H : (if (l0.length : Int) < 2 then (spec_TableOk.j0 k l0 true) else (if (l0.length : Int) > 12 then (spec_TableOk.j0 k l0 true) else (if 0 < (l0.length : Int) then (spec_TableOk.j0 k l0 (!(((rd_T41 l0 0).f0) == 0) || (!(((rd_T41 l0 0).f1) == (-1)) || (!(((rd_T41 l0 0).f2) == 0) || (!(((rd_T41 l0 0).f3) == 0) || (!(((rd_T41 l0 0).f4) == 0))))))) else (none)))) = some r := h
  clear h
  have HC2 := Aside0.mk H
  clear H
  go_enter Try.func15, Try.ntmps15
  go_upto_region 1 with (fail)
  repeat (go_quiet (fail); go_upto_region 1 with (fail))
  go_cut [21] (fun v21 wc => ∃ (kq : Nat) (x21_1 : Bool), v21 = .bool x21_1 ∧ Aside0 (spec_TableOk.j0 kq l0 x21_1 = some r) ∧ Aside0 (kq ≤ k) ∧ Aside0 (Below w.heap.size w wc))
  case first =>
    have H := HC2.out
    clear HC2
    by_cases c3 : (l0.length : Int) < 2
    · rw [if_pos c3] at H
      have c3b0 : decide ((l0.length : Int) < 2) = true := decide_eq_true c3
      have c3b1 : decide (l0.length < 2) = true := decide_eq_true (by omega)
      clear c3
      (first | rw [c3b0] | (simp only [i64_w, i32_w]; rw [c3b0]) | skip)
      have H' := Aside0.mk H
      clear H
      go_wp2
      repeat (go_quiet (fail); try go_wp2)
      go_meet
      case rel => exact ⟨_, (true), (by first | rfl | (simp; done) | (simp [*]; done)), H', ⟨by first | omega | exact Nat.le_refl _⟩, ⟨by repeat (first | (with_reducible first | exact HB.out | apply below_alloc | apply pw_below_drewN | apply below_drew1) | exact HB.out)⟩⟩
    · rw [if_neg c3] at H
      have c3b0 : decide ((l0.length : Int) < 2) = false := decide_eq_false c3
      have c3b1 : decide (l0.length < 2) = false := decide_eq_false (by omega)
      clear c3
      (first | rw [c3b0] | (simp only [i64_w, i32_w]; rw [c3b0]) | skip)
      by_cases c4 : (l0.length : Int) > 12
      · rw [if_pos c4] at H
        have c4b0 : decide (12 < (l0.length : Int)) = true := decide_eq_true c4
        have c4b1 : decide (12 < l0.length) = true := decide_eq_true (by omega)
        clear c4
        have H' := Aside0.mk H
        clear H
        go_wp2
        repeat (go_quiet (fail); try go_wp2)
        go_meet
        case rel => exact ⟨_, (true), (by first | rfl | (simp; done) | (simp [*]; done)), H', ⟨by first | omega | exact Nat.le_refl _⟩, ⟨by repeat (first | (with_reducible first | exact HB.out | apply below_alloc | apply pw_below_drewN | apply below_drew1) | exact HB.out)⟩⟩
      · rw [if_neg c4] at H
        have c4b0 : decide (12 < (l0.length : Int)) = false := decide_eq_false c4
        have c4b1 : decide (12 < l0.length) = false := decide_eq_false (by omega)
        clear c4
        by_cases c5 : 0 < (l0.length : Int)
        · rw [if_pos c5] at H
          have c5b0 : decide (0 < (l0.length : Int)) = true := decide_eq_true c5
          have c5b1 : decide (0 < l0.length) = true := decide_eq_true (by omega)
          clear c5
          have H' := Aside0.mk H
          clear H
          have p129 : 0 ≤ (0 : Int) := (by omega)
          have q129 : 0 < (l0.length : Int) := of_decide_eq_true (by first | (with_reducible assumption) | assumption)
          obtain ⟨ad129, e129, hx129_0, hx129_1, hx129_2, hx129_3, hx129_4⟩ := at_T41 HR0.out 0 p129 q129
          cases e129
          have qi129 : (0 < l0.length) = True := eq_true (by omega)
          (try rw [show ((0 : Int)).toNat = 0 from rfl] at hx129_0)
          (try rw [show 0 * 5 = 0 from rfl] at hx129_0)
          (try rw [Addr.add_zero'] at hx129_0)
          (try rw [show ((0 : Int)).toNat = 0 from rfl] at hx129_1)
          (try rw [show 0 * 5 = 0 from rfl] at hx129_1)
          (try rw [Addr.add_zero'] at hx129_1)
          (try rw [show ((0 : Int)).toNat = 0 from rfl] at hx129_2)
          (try rw [show 0 * 5 = 0 from rfl] at hx129_2)
          (try rw [Addr.add_zero'] at hx129_2)
          (try rw [show ((0 : Int)).toNat = 0 from rfl] at hx129_3)
          (try rw [show 0 * 5 = 0 from rfl] at hx129_3)
          (try rw [Addr.add_zero'] at hx129_3)
          (try rw [show ((0 : Int)).toNat = 0 from rfl] at hx129_4)
          (try rw [show 0 * 5 = 0 from rfl] at hx129_4)
          (try rw [Addr.add_zero'] at hx129_4)
          replace hx129_0 := (HB.out.cell (World.block_lt_of_cell? w _ hx129_0)).trans hx129_0
          replace hx129_1 := (HB.out.cell (World.block_lt_of_cell? w _ hx129_1)).trans hx129_1
          replace hx129_2 := (HB.out.cell (World.block_lt_of_cell? w _ hx129_2)).trans hx129_2
          replace hx129_3 := (HB.out.cell (World.block_lt_of_cell? w _ hx129_3)).trans hx129_3
          replace hx129_4 := (HB.out.cell (World.block_lt_of_cell? w _ hx129_4)).trans hx129_4
          replace p129 := eq_true p129
          replace q129 := eq_true q129
          go_wp2
          repeat (go_quiet (fail); try go_wp2)
          go_meet
          case rel => exact ⟨_, ((!(((rd_T41 l0 0).f0) == 0) || (!(((rd_T41 l0 0).f1) == (-1)) || (!(((rd_T41 l0 0).f2) == 0) || (!(((rd_T41 l0 0).f3) == 0) || (!(((rd_T41 l0 0).f4) == 0))))))), (by first | rfl | (simp; done) | (simp [*]; done)), H', ⟨by first | omega | exact Nat.le_refl _⟩, ⟨by repeat (first | (with_reducible first | exact HB.out | apply below_alloc | apply pw_below_drewN | apply below_drew1) | exact HB.out)⟩⟩
        · rw [if_neg c5] at H
          exact absurd H (by simp)
  case rest =>
    clear HC2
    try clear c1
    try clear p1
    try clear q1
    try clear hx1
    try clear qi1
    try clear p2
    try clear c3
    try clear c3b0
    try clear c3b1
    try clear c4
    try clear c4b0
    try clear c4b1
    try clear c5
    try clear c5b0
    try clear c5b1
    try clear hx129_0
    try clear hx129_1
    try clear hx129_2
    try clear hx129_3
    try clear hx129_4
    try clear p129
    try clear q129
    obtain ⟨kq, x21_1, rfl, HA, HJ1, HB⟩ := hcut
    cases kq with
    | zero => exact absurd HA.out (by simp [spec_TableOk.j0])
    | succ kj1 =>
      have H := HA.out
      clear HA
      simp only [spec_TableOk.j0] at H
      by_cases c6 : x21_1 = true
      · subst c6
        have H1 : (some false) = some r := by rw [if_pos rfl] at H; exact H
        clear H
        have H := H1
        clear H1
        obtain rfl := Option.some.inj H
        go_wp2
        repeat (go_quiet (fail); try go_wp2)
        go_ret
        exact ⟨by first | rfl | (simp [errW_none, errW_some] <;> rfl) | (simp [*, errW_none, errW_some] <;> rfl), by repeat (first | (with_reducible first | exact HB.out | apply below_alloc | apply pw_below_drewN | apply below_drew1) | exact HB.out)⟩
      · replace c6 := Bool.eq_false_iff.mpr c6
        subst c6
        have H1 : (spec_TableOk.l0 kj1 l0 1) = some r := by rw [if_neg (show ¬ (false = true) by decide)] at H; exact H
        clear H
        have H := H1
        clear H1
        have H' := Aside0.mk H
        clear H
        go_wp2
        repeat (go_quiet (fail); try go_wp2)
        go_loopg [3] kj1 (fun kq v3 w' => ∃ (x3_2 : Int), v3 = .int .i64 x3_2 ∧ Aside0 (spec_TableOk.l0 kq l0 x3_2 = some r) ∧ Aside0 (kq ≤ kj1) ∧ Aside0 (Below w.heap.size w w'))
        case atStart => exact ⟨(1), (by first | rfl | (simp; done) | (simp [*]; done)), H', ⟨Nat.le_refl _⟩, ⟨by repeat (first | (with_reducible first | exact HB.out | apply below_alloc | apply pw_below_drewN | apply below_drew1) | exact HB.out)⟩⟩
        case round =>
          clear H'
          try clear c1
          try clear p1
          try clear q1
          try clear hx1
          try clear qi1
          try clear p2
          try clear c3
          try clear c3b0
          try clear c3b1
          try clear c4
          try clear c4b0
          try clear c4b1
          try clear c5
          try clear c5b0
          try clear c5b1
          try clear c6
          try clear hx129_0
          try clear hx129_1
          try clear hx129_2
          try clear hx129_3
          try clear hx129_4
          try clear p1
          try clear p129
          try clear p2
          try clear q1
          try clear q129
          obtain ⟨x3_2, rfl, HA, HK2, HB⟩ := hrel
          cases gk with
          | zero => exact absurd HA.out (by simp [spec_TableOk.l0])
          | succ k2 =>
            have H := HA.out
            clear HA
            simp only [spec_TableOk.l0] at H
            by_cases c7 : x3_2 < (l0.length : Int)
            · rw [if_pos c7] at H
              have c7b0 : decide (x3_2 < (l0.length : Int)) = true := decide_eq_true c7
              clear c7
              by_cases c8 : 0 ≤ x3_2
              · rw [if_pos c8] at H
                have c8b0 : decide (0 ≤ x3_2) = true := decide_eq_true c8
                clear c8
                replace H := Option.bind_eq_some_iff.mp H
                obtain ⟨t132, A90, H⟩ := H
                replace H : (if ((rd_T41 l0 x3_2).f0) < 1 then (spec_TableOk.j2 k2 l0 x3_2 t132 true ((rd_T41 l0 x3_2).f0) ((rd_T41 l0 x3_2).f1) ((rd_T41 l0 x3_2).f2) ((rd_T41 l0 x3_2).f3) ((rd_T41 l0 x3_2).f4)) else (if ((rd_T41 l0 x3_2).f0) > 4 then (spec_TableOk.j2 k2 l0 x3_2 t132 true ((rd_T41 l0 x3_2).f0) ((rd_T41 l0 x3_2).f1) ((rd_T41 l0 x3_2).f2) ((rd_T41 l0 x3_2).f3) ((rd_T41 l0 x3_2).f4)) else (if ((rd_T41 l0 x3_2).f2) < t132 then (spec_TableOk.j2 k2 l0 x3_2 t132 true ((rd_T41 l0 x3_2).f0) ((rd_T41 l0 x3_2).f1) ((rd_T41 l0 x3_2).f2) ((rd_T41 l0 x3_2).f3) ((rd_T41 l0 x3_2).f4)) else (if ((rd_T41 l0 x3_2).f2) > (wrap64 (t132 + 16)) then (spec_TableOk.j2 k2 l0 x3_2 t132 true ((rd_T41 l0 x3_2).f0) ((rd_T41 l0 x3_2).f1) ((rd_T41 l0 x3_2).f2) ((rd_T41 l0 x3_2).f3) ((rd_T41 l0 x3_2).f4)) else (if ((rd_T41 l0 x3_2).f3) < t132 then (spec_TableOk.j2 k2 l0 x3_2 t132 true ((rd_T41 l0 x3_2).f0) ((rd_T41 l0 x3_2).f1) ((rd_T41 l0 x3_2).f2) ((rd_T41 l0 x3_2).f3) ((rd_T41 l0 x3_2).f4)) else (if ((rd_T41 l0 x3_2).f3) > ((rd_T41 l0 x3_2).f2) then (spec_TableOk.j2 k2 l0 x3_2 t132 true ((rd_T41 l0 x3_2).f0) ((rd_T41 l0 x3_2).f1) ((rd_T41 l0 x3_2).f2) ((rd_T41 l0 x3_2).f3) ((rd_T41 l0 x3_2).f4)) else (if ((rd_T41 l0 x3_2).f4) < 0 then (spec_TableOk.j2 k2 l0 x3_2 t132 true ((rd_T41 l0 x3_2).f0) ((rd_T41 l0 x3_2).f1) ((rd_T41 l0 x3_2).f2) ((rd_T41 l0 x3_2).f3) ((rd_T41 l0 x3_2).f4)) else (spec_TableOk.j2 k2 l0 x3_2 t132 (decide (((rd_T41 l0 x3_2).f4) > (wrap64 (((rd_T41 l0 x3_2).f2) - t132)))) ((rd_T41 l0 x3_2).f0) ((rd_T41 l0 x3_2).f1) ((rd_T41 l0 x3_2).f2) ((rd_T41 l0 x3_2).f3) ((rd_T41 l0 x3_2).f4))))))))) = some r := H
                have A9 := Aside0.mk A90
                clear A90
                have HC10 := Aside0.mk H
                clear H
                have p130 : 0 ≤ (x3_2 : Int) := of_decide_eq_true (by first | (with_reducible assumption) | assumption)
                have q130 : x3_2 < (l0.length : Int) := of_decide_eq_true (by first | (with_reducible assumption) | assumption)
                obtain ⟨ad130, e130, hx130_0, hx130_1, hx130_2, hx130_3, hx130_4⟩ := at_T41 HR0.out x3_2 p130 q130
                cases e130
                replace hx130_0 := (HB.out.cell (World.block_lt_of_cell? w _ hx130_0)).trans hx130_0
                replace hx130_1 := (HB.out.cell (World.block_lt_of_cell? w _ hx130_1)).trans hx130_1
                replace hx130_2 := (HB.out.cell (World.block_lt_of_cell? w _ hx130_2)).trans hx130_2
                replace hx130_3 := (HB.out.cell (World.block_lt_of_cell? w _ hx130_3)).trans hx130_3
                replace hx130_4 := (HB.out.cell (World.block_lt_of_cell? w _ hx130_4)).trans hx130_4
                replace p130 := eq_true p130
                replace q130 := eq_true q130
                go_upto_region 8 with (first | ((with_reducible refine gate_dst (N := 4) rfl ?_); (try (refine gate_guard (by rfl) ?_; dsimp only)); refine box_event ?hg (N := 4) ?hd (cs := #[.int .i64 0, .int .i64 0, .int .i64 0, .int .i64 0, .int .i64 0]) (t := 41) ?hr ?_; (case hd => rfl); (case hg => rfl); (case hr => first | (go_simp; done) | (go_simp; rfl)); intro gb131 hg w11 hbox hb; have n0_ := Aside0.mk (below_step (by repeat (first | (with_reducible first | exact HB.out | apply below_alloc | apply pw_below_drewN | apply below_drew1) | exact HB.out)) hb); have n1_ := Aside0.mk (hbox); have n2_ := Aside0.mk ((by rw [hg]; exact (below_size (by repeat (first | (with_reducible first | exact HB.out | apply below_alloc | apply pw_below_drewN | apply below_drew1) | exact HB.out))) : w.heap.size ≤ gb131)); have n3_ := Aside0.mk ((by rw [hg]; exact (below_size (by repeat (first | (with_reducible first | exact HB.out | apply below_alloc | apply pw_below_drewN | apply below_drew1) | exact HB.out))) : w.heap.size ≤ gb131)); clear HB; have HB := n0_; have BK131 := n1_; have GW131 := n2_; have GE131 := n3_; clear n0_ n1_ n2_ n3_; clear hb hbox hg; have hcz12_0 : w11.cell? ⟨gb131, 0, none⟩ = some (.int .i64 0) := (blk_cell BK131.out 0).trans rfl; have hcz12_1 : w11.cell? ⟨gb131, 1, none⟩ = some (.int .i64 0) := (blk_cell BK131.out 1).trans rfl; have hcz12_2 : w11.cell? ⟨gb131, 2, none⟩ = some (.int .i64 0) := (blk_cell BK131.out 2).trans rfl; have hcz12_3 : w11.cell? ⟨gb131, 3, none⟩ = some (.int .i64 0) := (blk_cell BK131.out 3).trans rfl; have hcz12_4 : w11.cell? ⟨gb131, 4, none⟩ = some (.int .i64 0) := (blk_cell BK131.out 4).trans rfl; have hfz12_0 := blk_frozen BK131.out 0; have hfz12_1 := blk_frozen BK131.out 1; have hfz12_2 := blk_frozen BK131.out 2; have hfz12_3 := blk_frozen BK131.out 3; have hfz12_4 := blk_frozen BK131.out 4) | (go_at_call 26; (with_reducible refine (spec_RegionBase.calls x3_2 t132 _ A9.out).mono ?_); rintro e w' ⟨rfl, ⟨nd, rfl⟩⟩; (try first | exact ⟨rfl, _, World.drewN_drewN _ _ _⟩ | exact ⟨rfl, _, Eq.trans (World.drewN_drewN _ _ _) (congrArg (World.drewN _) (Nat.add_assoc _ _ _))⟩)))
                repeat (go_quiet (first | ((with_reducible refine gate_dst (N := 4) rfl ?_); (try (refine gate_guard (by rfl) ?_; dsimp only)); refine box_event ?hg (N := 4) ?hd (cs := #[.int .i64 0, .int .i64 0, .int .i64 0, .int .i64 0, .int .i64 0]) (t := 41) ?hr ?_; (case hd => rfl); (case hg => rfl); (case hr => first | (go_simp; done) | (go_simp; rfl)); intro gb131 hg w11 hbox hb; have n0_ := Aside0.mk (below_step (by repeat (first | (with_reducible first | exact HB.out | apply below_alloc | apply pw_below_drewN | apply below_drew1) | exact HB.out)) hb); have n1_ := Aside0.mk (hbox); have n2_ := Aside0.mk ((by rw [hg]; exact (below_size (by repeat (first | (with_reducible first | exact HB.out | apply below_alloc | apply pw_below_drewN | apply below_drew1) | exact HB.out))) : w.heap.size ≤ gb131)); have n3_ := Aside0.mk ((by rw [hg]; exact (below_size (by repeat (first | (with_reducible first | exact HB.out | apply below_alloc | apply pw_below_drewN | apply below_drew1) | exact HB.out))) : w.heap.size ≤ gb131)); clear HB; have HB := n0_; have BK131 := n1_; have GW131 := n2_; have GE131 := n3_; clear n0_ n1_ n2_ n3_; clear hb hbox hg; have hcz12_0 : w11.cell? ⟨gb131, 0, none⟩ = some (.int .i64 0) := (blk_cell BK131.out 0).trans rfl; have hcz12_1 : w11.cell? ⟨gb131, 1, none⟩ = some (.int .i64 0) := (blk_cell BK131.out 1).trans rfl; have hcz12_2 : w11.cell? ⟨gb131, 2, none⟩ = some (.int .i64 0) := (blk_cell BK131.out 2).trans rfl; have hcz12_3 : w11.cell? ⟨gb131, 3, none⟩ = some (.int .i64 0) := (blk_cell BK131.out 3).trans rfl; have hcz12_4 : w11.cell? ⟨gb131, 4, none⟩ = some (.int .i64 0) := (blk_cell BK131.out 4).trans rfl; have hfz12_0 := blk_frozen BK131.out 0; have hfz12_1 := blk_frozen BK131.out 1; have hfz12_2 := blk_frozen BK131.out 2; have hfz12_3 := blk_frozen BK131.out 3; have hfz12_4 := blk_frozen BK131.out 4) | (go_at_call 26; (with_reducible refine (spec_RegionBase.calls x3_2 t132 _ A9.out).mono ?_); rintro e w' ⟨rfl, ⟨nd, rfl⟩⟩; (try first | exact ⟨rfl, _, World.drewN_drewN _ _ _⟩ | exact ⟨rfl, _, Eq.trans (World.drewN_drewN _ _ _) (congrArg (World.drewN _) (Nat.add_assoc _ _ _))⟩))); go_upto_region 8 with (first | ((with_reducible refine gate_dst (N := 4) rfl ?_); (try (refine gate_guard (by rfl) ?_; dsimp only)); refine box_event ?hg (N := 4) ?hd (cs := #[.int .i64 0, .int .i64 0, .int .i64 0, .int .i64 0, .int .i64 0]) (t := 41) ?hr ?_; (case hd => rfl); (case hg => rfl); (case hr => first | (go_simp; done) | (go_simp; rfl)); intro gb131 hg w11 hbox hb; have n0_ := Aside0.mk (below_step (by repeat (first | (with_reducible first | exact HB.out | apply below_alloc | apply pw_below_drewN | apply below_drew1) | exact HB.out)) hb); have n1_ := Aside0.mk (hbox); have n2_ := Aside0.mk ((by rw [hg]; exact (below_size (by repeat (first | (with_reducible first | exact HB.out | apply below_alloc | apply pw_below_drewN | apply below_drew1) | exact HB.out))) : w.heap.size ≤ gb131)); have n3_ := Aside0.mk ((by rw [hg]; exact (below_size (by repeat (first | (with_reducible first | exact HB.out | apply below_alloc | apply pw_below_drewN | apply below_drew1) | exact HB.out))) : w.heap.size ≤ gb131)); clear HB; have HB := n0_; have BK131 := n1_; have GW131 := n2_; have GE131 := n3_; clear n0_ n1_ n2_ n3_; clear hb hbox hg; have hcz12_0 : w11.cell? ⟨gb131, 0, none⟩ = some (.int .i64 0) := (blk_cell BK131.out 0).trans rfl; have hcz12_1 : w11.cell? ⟨gb131, 1, none⟩ = some (.int .i64 0) := (blk_cell BK131.out 1).trans rfl; have hcz12_2 : w11.cell? ⟨gb131, 2, none⟩ = some (.int .i64 0) := (blk_cell BK131.out 2).trans rfl; have hcz12_3 : w11.cell? ⟨gb131, 3, none⟩ = some (.int .i64 0) := (blk_cell BK131.out 3).trans rfl; have hcz12_4 : w11.cell? ⟨gb131, 4, none⟩ = some (.int .i64 0) := (blk_cell BK131.out 4).trans rfl; have hfz12_0 := blk_frozen BK131.out 0; have hfz12_1 := blk_frozen BK131.out 1; have hfz12_2 := blk_frozen BK131.out 2; have hfz12_3 := blk_frozen BK131.out 3; have hfz12_4 := blk_frozen BK131.out 4) | (go_at_call 26; (with_reducible refine (spec_RegionBase.calls x3_2 t132 _ A9.out).mono ?_); rintro e w' ⟨rfl, ⟨nd, rfl⟩⟩; (try first | exact ⟨rfl, _, World.drewN_drewN _ _ _⟩ | exact ⟨rfl, _, Eq.trans (World.drewN_drewN _ _ _) (congrArg (World.drewN _) (Nat.add_assoc _ _ _))⟩))))
                (try simp only [Act.put, List.setIfInBounds_toArray, List.set_cons_zero, List.set_cons_succ])
                go_cut [81] (fun v81 wc => ∃ (kq : Nat) (x81_9 : Bool), v81 = .bool x81_9 ∧ Aside0 (spec_TableOk.j2 kq l0 x3_2 t132 x81_9 ((rd_T41 l0 x3_2).f0) ((rd_T41 l0 x3_2).f1) ((rd_T41 l0 x3_2).f2) ((rd_T41 l0 x3_2).f3) ((rd_T41 l0 x3_2).f4) = some r) ∧ Aside0 (kq ≤ k2) ∧ Aside0 (wc.heap[gb131]? = some (.cells #[.int .i64 ((rd_T41 l0 x3_2).f0), .int .i64 ((rd_T41 l0 x3_2).f1), .int .i64 ((rd_T41 l0 x3_2).f2), .int .i64 ((rd_T41 l0 x3_2).f3), .int .i64 ((rd_T41 l0 x3_2).f4)] 41 (0, 0))) ∧ Aside0 (Below w.heap.size w wc))
                case first =>
                  have H := HC10.out
                  clear HC10
                  by_cases c13 : ((rd_T41 l0 x3_2).f0) < 1
                  · rw [if_pos c13] at H
                    have c13b0 : decide (((rd_T41 l0 x3_2).f0) < 1) = true := decide_eq_true c13
                    clear c13
                    (first | rw [c13b0] | (simp only [i64_w, i32_w]; rw [c13b0]) | skip)
                    have H' := Aside0.mk H
                    clear H
                    have hcz14_0 : w11.cell? ⟨gb131, 0, none⟩ = some (.int .i64 0) := (blk_cell BK131.out 0).trans rfl
                    have hcz14_1 : w11.cell? ⟨gb131, 1, none⟩ = some (.int .i64 0) := (blk_cell BK131.out 1).trans rfl
                    have hcz14_2 : w11.cell? ⟨gb131, 2, none⟩ = some (.int .i64 0) := (blk_cell BK131.out 2).trans rfl
                    have hcz14_3 : w11.cell? ⟨gb131, 3, none⟩ = some (.int .i64 0) := (blk_cell BK131.out 3).trans rfl
                    have hcz14_4 : w11.cell? ⟨gb131, 4, none⟩ = some (.int .i64 0) := (blk_cell BK131.out 4).trans rfl
                    have hfz14_0 := blk_frozen BK131.out 0
                    have hfz14_1 := blk_frozen BK131.out 1
                    have hfz14_2 := blk_frozen BK131.out 2
                    have hfz14_3 := blk_frozen BK131.out 3
                    have hfz14_4 := blk_frozen BK131.out 4
                    go_wp2
                    repeat (go_quiet (fail); try go_wp2)
                    go_meet
                    case rel => exact ⟨_, (true), (by first | rfl | (simp; done) | (simp [*]; done)), H', ⟨by have := HJ1.out; have := HK2.out; first | omega | exact Nat.le_refl _⟩, ⟨by (with_reducible repeat (first | refine blk_drewN ?_ _ | refine blk_drew ?_ | refine blk_alloc ?_ _)); refine blk_put (cs := #[.int .i64 ((rd_T41 l0 x3_2).f0), .int .i64 ((rd_T41 l0 x3_2).f1), .int .i64 ((rd_T41 l0 x3_2).f2), .int .i64 ((rd_T41 l0 x3_2).f3), .int .i64 0]) ?_ 4 _ rfl; (with_reducible repeat (first | refine blk_drewN ?_ _ | refine blk_drew ?_ | refine blk_alloc ?_ _)); refine blk_put (cs := #[.int .i64 ((rd_T41 l0 x3_2).f0), .int .i64 ((rd_T41 l0 x3_2).f1), .int .i64 ((rd_T41 l0 x3_2).f2), .int .i64 0, .int .i64 0]) ?_ 3 _ rfl; (with_reducible repeat (first | refine blk_drewN ?_ _ | refine blk_drew ?_ | refine blk_alloc ?_ _)); refine blk_put (cs := #[.int .i64 ((rd_T41 l0 x3_2).f0), .int .i64 ((rd_T41 l0 x3_2).f1), .int .i64 0, .int .i64 0, .int .i64 0]) ?_ 2 _ rfl; (with_reducible repeat (first | refine blk_drewN ?_ _ | refine blk_drew ?_ | refine blk_alloc ?_ _)); refine blk_put (cs := #[.int .i64 ((rd_T41 l0 x3_2).f0), .int .i64 0, .int .i64 0, .int .i64 0, .int .i64 0]) ?_ 1 _ rfl; (with_reducible repeat (first | refine blk_drewN ?_ _ | refine blk_drew ?_ | refine blk_alloc ?_ _)); refine blk_put (cs := #[.int .i64 0, .int .i64 0, .int .i64 0, .int .i64 0, .int .i64 0]) ?_ 0 _ rfl; (with_reducible repeat (first | refine blk_drewN ?_ _ | refine blk_drew ?_ | refine blk_alloc ?_ _)); exact BK131.out⟩, ⟨by repeat (first | (with_reducible first | exact HB.out | apply below_alloc | apply pw_below_drewN | apply below_drew1 | refine below_set ?_ GE131.out) | exact HB.out)⟩⟩
                  · rw [if_neg c13] at H
                    have c13b0 : decide (((rd_T41 l0 x3_2).f0) < 1) = false := decide_eq_false c13
                    clear c13
                    (first | rw [c13b0] | (simp only [i64_w, i32_w]; rw [c13b0]) | skip)
                    by_cases c15 : ((rd_T41 l0 x3_2).f0) > 4
                    · rw [if_pos c15] at H
                      have c15b0 : decide (4 < ((rd_T41 l0 x3_2).f0)) = true := decide_eq_true c15
                      clear c15
                      have H' := Aside0.mk H
                      clear H
                      have hcz16_0 : w11.cell? ⟨gb131, 0, none⟩ = some (.int .i64 0) := (blk_cell BK131.out 0).trans rfl
                      have hcz16_1 : w11.cell? ⟨gb131, 1, none⟩ = some (.int .i64 0) := (blk_cell BK131.out 1).trans rfl
                      have hcz16_2 : w11.cell? ⟨gb131, 2, none⟩ = some (.int .i64 0) := (blk_cell BK131.out 2).trans rfl
                      have hcz16_3 : w11.cell? ⟨gb131, 3, none⟩ = some (.int .i64 0) := (blk_cell BK131.out 3).trans rfl
                      have hcz16_4 : w11.cell? ⟨gb131, 4, none⟩ = some (.int .i64 0) := (blk_cell BK131.out 4).trans rfl
                      have hfz16_0 := blk_frozen BK131.out 0
                      have hfz16_1 := blk_frozen BK131.out 1
                      have hfz16_2 := blk_frozen BK131.out 2
                      have hfz16_3 := blk_frozen BK131.out 3
                      have hfz16_4 := blk_frozen BK131.out 4
                      go_wp2
                      repeat (go_quiet (fail); try go_wp2)
                      go_meet
                      case rel => exact ⟨_, (true), (by first | rfl | (simp; done) | (simp [*]; done)), H', ⟨by have := HJ1.out; have := HK2.out; first | omega | exact Nat.le_refl _⟩, ⟨by (with_reducible repeat (first | refine blk_drewN ?_ _ | refine blk_drew ?_ | refine blk_alloc ?_ _)); refine blk_put (cs := #[.int .i64 ((rd_T41 l0 x3_2).f0), .int .i64 ((rd_T41 l0 x3_2).f1), .int .i64 ((rd_T41 l0 x3_2).f2), .int .i64 ((rd_T41 l0 x3_2).f3), .int .i64 0]) ?_ 4 _ rfl; (with_reducible repeat (first | refine blk_drewN ?_ _ | refine blk_drew ?_ | refine blk_alloc ?_ _)); refine blk_put (cs := #[.int .i64 ((rd_T41 l0 x3_2).f0), .int .i64 ((rd_T41 l0 x3_2).f1), .int .i64 ((rd_T41 l0 x3_2).f2), .int .i64 0, .int .i64 0]) ?_ 3 _ rfl; (with_reducible repeat (first | refine blk_drewN ?_ _ | refine blk_drew ?_ | refine blk_alloc ?_ _)); refine blk_put (cs := #[.int .i64 ((rd_T41 l0 x3_2).f0), .int .i64 ((rd_T41 l0 x3_2).f1), .int .i64 0, .int .i64 0, .int .i64 0]) ?_ 2 _ rfl; (with_reducible repeat (first | refine blk_drewN ?_ _ | refine blk_drew ?_ | refine blk_alloc ?_ _)); refine blk_put (cs := #[.int .i64 ((rd_T41 l0 x3_2).f0), .int .i64 0, .int .i64 0, .int .i64 0, .int .i64 0]) ?_ 1 _ rfl; (with_reducible repeat (first | refine blk_drewN ?_ _ | refine blk_drew ?_ | refine blk_alloc ?_ _)); refine blk_put (cs := #[.int .i64 0, .int .i64 0, .int .i64 0, .int .i64 0, .int .i64 0]) ?_ 0 _ rfl; (with_reducible repeat (first | refine blk_drewN ?_ _ | refine blk_drew ?_ | refine blk_alloc ?_ _)); exact BK131.out⟩, ⟨by repeat (first | (with_reducible first | exact HB.out | apply below_alloc | apply pw_below_drewN | apply below_drew1 | refine below_set ?_ GE131.out) | exact HB.out)⟩⟩
                    · rw [if_neg c15] at H
                      have c15b0 : decide (4 < ((rd_T41 l0 x3_2).f0)) = false := decide_eq_false c15
                      clear c15
                      by_cases c17 : ((rd_T41 l0 x3_2).f2) < t132
                      · rw [if_pos c17] at H
                        have c17b0 : decide (((rd_T41 l0 x3_2).f2) < t132) = true := decide_eq_true c17
                        clear c17
                        have H' := Aside0.mk H
                        clear H
                        have hcz18_0 : w11.cell? ⟨gb131, 0, none⟩ = some (.int .i64 0) := (blk_cell BK131.out 0).trans rfl
                        have hcz18_1 : w11.cell? ⟨gb131, 1, none⟩ = some (.int .i64 0) := (blk_cell BK131.out 1).trans rfl
                        have hcz18_2 : w11.cell? ⟨gb131, 2, none⟩ = some (.int .i64 0) := (blk_cell BK131.out 2).trans rfl
                        have hcz18_3 : w11.cell? ⟨gb131, 3, none⟩ = some (.int .i64 0) := (blk_cell BK131.out 3).trans rfl
                        have hcz18_4 : w11.cell? ⟨gb131, 4, none⟩ = some (.int .i64 0) := (blk_cell BK131.out 4).trans rfl
                        have hfz18_0 := blk_frozen BK131.out 0
                        have hfz18_1 := blk_frozen BK131.out 1
                        have hfz18_2 := blk_frozen BK131.out 2
                        have hfz18_3 := blk_frozen BK131.out 3
                        have hfz18_4 := blk_frozen BK131.out 4
                        go_wp2
                        repeat (go_quiet (fail); try go_wp2)
                        go_meet
                        case rel => exact ⟨_, (true), (by first | rfl | (simp; done) | (simp [*]; done)), H', ⟨by have := HJ1.out; have := HK2.out; first | omega | exact Nat.le_refl _⟩, ⟨by (with_reducible repeat (first | refine blk_drewN ?_ _ | refine blk_drew ?_ | refine blk_alloc ?_ _)); refine blk_put (cs := #[.int .i64 ((rd_T41 l0 x3_2).f0), .int .i64 ((rd_T41 l0 x3_2).f1), .int .i64 ((rd_T41 l0 x3_2).f2), .int .i64 ((rd_T41 l0 x3_2).f3), .int .i64 0]) ?_ 4 _ rfl; (with_reducible repeat (first | refine blk_drewN ?_ _ | refine blk_drew ?_ | refine blk_alloc ?_ _)); refine blk_put (cs := #[.int .i64 ((rd_T41 l0 x3_2).f0), .int .i64 ((rd_T41 l0 x3_2).f1), .int .i64 ((rd_T41 l0 x3_2).f2), .int .i64 0, .int .i64 0]) ?_ 3 _ rfl; (with_reducible repeat (first | refine blk_drewN ?_ _ | refine blk_drew ?_ | refine blk_alloc ?_ _)); refine blk_put (cs := #[.int .i64 ((rd_T41 l0 x3_2).f0), .int .i64 ((rd_T41 l0 x3_2).f1), .int .i64 0, .int .i64 0, .int .i64 0]) ?_ 2 _ rfl; (with_reducible repeat (first | refine blk_drewN ?_ _ | refine blk_drew ?_ | refine blk_alloc ?_ _)); refine blk_put (cs := #[.int .i64 ((rd_T41 l0 x3_2).f0), .int .i64 0, .int .i64 0, .int .i64 0, .int .i64 0]) ?_ 1 _ rfl; (with_reducible repeat (first | refine blk_drewN ?_ _ | refine blk_drew ?_ | refine blk_alloc ?_ _)); refine blk_put (cs := #[.int .i64 0, .int .i64 0, .int .i64 0, .int .i64 0, .int .i64 0]) ?_ 0 _ rfl; (with_reducible repeat (first | refine blk_drewN ?_ _ | refine blk_drew ?_ | refine blk_alloc ?_ _)); exact BK131.out⟩, ⟨by repeat (first | (with_reducible first | exact HB.out | apply below_alloc | apply pw_below_drewN | apply below_drew1 | refine below_set ?_ GE131.out) | exact HB.out)⟩⟩
                      · rw [if_neg c17] at H
                        have c17b0 : decide (((rd_T41 l0 x3_2).f2) < t132) = false := decide_eq_false c17
                        clear c17
                        by_cases c19 : ((rd_T41 l0 x3_2).f2) > (wrap64 (t132 + 16))
                        · rw [if_pos c19] at H
                          have c19b0 : decide ((wrap64 (t132 + 16)) < ((rd_T41 l0 x3_2).f2)) = true := decide_eq_true c19
                          clear c19
                          have H' := Aside0.mk H
                          clear H
                          have hcz20_0 : w11.cell? ⟨gb131, 0, none⟩ = some (.int .i64 0) := (blk_cell BK131.out 0).trans rfl
                          have hcz20_1 : w11.cell? ⟨gb131, 1, none⟩ = some (.int .i64 0) := (blk_cell BK131.out 1).trans rfl
                          have hcz20_2 : w11.cell? ⟨gb131, 2, none⟩ = some (.int .i64 0) := (blk_cell BK131.out 2).trans rfl
                          have hcz20_3 : w11.cell? ⟨gb131, 3, none⟩ = some (.int .i64 0) := (blk_cell BK131.out 3).trans rfl
                          have hcz20_4 : w11.cell? ⟨gb131, 4, none⟩ = some (.int .i64 0) := (blk_cell BK131.out 4).trans rfl
                          have hfz20_0 := blk_frozen BK131.out 0
                          have hfz20_1 := blk_frozen BK131.out 1
                          have hfz20_2 := blk_frozen BK131.out 2
                          have hfz20_3 := blk_frozen BK131.out 3
                          have hfz20_4 := blk_frozen BK131.out 4
                          go_wp2
                          repeat (go_quiet (fail); try go_wp2)
                          go_meet
                          case rel => exact ⟨_, (true), (by first | rfl | (simp; done) | (simp [*]; done)), H', ⟨by have := HJ1.out; have := HK2.out; first | omega | exact Nat.le_refl _⟩, ⟨by (with_reducible repeat (first | refine blk_drewN ?_ _ | refine blk_drew ?_ | refine blk_alloc ?_ _)); refine blk_put (cs := #[.int .i64 ((rd_T41 l0 x3_2).f0), .int .i64 ((rd_T41 l0 x3_2).f1), .int .i64 ((rd_T41 l0 x3_2).f2), .int .i64 ((rd_T41 l0 x3_2).f3), .int .i64 0]) ?_ 4 _ rfl; (with_reducible repeat (first | refine blk_drewN ?_ _ | refine blk_drew ?_ | refine blk_alloc ?_ _)); refine blk_put (cs := #[.int .i64 ((rd_T41 l0 x3_2).f0), .int .i64 ((rd_T41 l0 x3_2).f1), .int .i64 ((rd_T41 l0 x3_2).f2), .int .i64 0, .int .i64 0]) ?_ 3 _ rfl; (with_reducible repeat (first | refine blk_drewN ?_ _ | refine blk_drew ?_ | refine blk_alloc ?_ _)); refine blk_put (cs := #[.int .i64 ((rd_T41 l0 x3_2).f0), .int .i64 ((rd_T41 l0 x3_2).f1), .int .i64 0, .int .i64 0, .int .i64 0]) ?_ 2 _ rfl; (with_reducible repeat (first | refine blk_drewN ?_ _ | refine blk_drew ?_ | refine blk_alloc ?_ _)); refine blk_put (cs := #[.int .i64 ((rd_T41 l0 x3_2).f0), .int .i64 0, .int .i64 0, .int .i64 0, .int .i64 0]) ?_ 1 _ rfl; (with_reducible repeat (first | refine blk_drewN ?_ _ | refine blk_drew ?_ | refine blk_alloc ?_ _)); refine blk_put (cs := #[.int .i64 0, .int .i64 0, .int .i64 0, .int .i64 0, .int .i64 0]) ?_ 0 _ rfl; (with_reducible repeat (first | refine blk_drewN ?_ _ | refine blk_drew ?_ | refine blk_alloc ?_ _)); exact BK131.out⟩, ⟨by repeat (first | (with_reducible first | exact HB.out | apply below_alloc | apply pw_below_drewN | apply below_drew1 | refine below_set ?_ GE131.out) | exact HB.out)⟩⟩
                        · rw [if_neg c19] at H
                          have c19b0 : decide ((wrap64 (t132 + 16)) < ((rd_T41 l0 x3_2).f2)) = false := decide_eq_false c19
                          clear c19
                          by_cases c21 : ((rd_T41 l0 x3_2).f3) < t132
                          · rw [if_pos c21] at H
                            have c21b0 : decide (((rd_T41 l0 x3_2).f3) < t132) = true := decide_eq_true c21
                            clear c21
                            have H' := Aside0.mk H
                            clear H
                            have hcz22_0 : w11.cell? ⟨gb131, 0, none⟩ = some (.int .i64 0) := (blk_cell BK131.out 0).trans rfl
                            have hcz22_1 : w11.cell? ⟨gb131, 1, none⟩ = some (.int .i64 0) := (blk_cell BK131.out 1).trans rfl
                            have hcz22_2 : w11.cell? ⟨gb131, 2, none⟩ = some (.int .i64 0) := (blk_cell BK131.out 2).trans rfl
                            have hcz22_3 : w11.cell? ⟨gb131, 3, none⟩ = some (.int .i64 0) := (blk_cell BK131.out 3).trans rfl
                            have hcz22_4 : w11.cell? ⟨gb131, 4, none⟩ = some (.int .i64 0) := (blk_cell BK131.out 4).trans rfl
                            have hfz22_0 := blk_frozen BK131.out 0
                            have hfz22_1 := blk_frozen BK131.out 1
                            have hfz22_2 := blk_frozen BK131.out 2
                            have hfz22_3 := blk_frozen BK131.out 3
                            have hfz22_4 := blk_frozen BK131.out 4
                            go_wp2
                            repeat (go_quiet (fail); try go_wp2)
                            go_meet
                            case rel => exact ⟨_, (true), (by first | rfl | (simp; done) | (simp [*]; done)), H', ⟨by have := HJ1.out; have := HK2.out; first | omega | exact Nat.le_refl _⟩, ⟨by (with_reducible repeat (first | refine blk_drewN ?_ _ | refine blk_drew ?_ | refine blk_alloc ?_ _)); refine blk_put (cs := #[.int .i64 ((rd_T41 l0 x3_2).f0), .int .i64 ((rd_T41 l0 x3_2).f1), .int .i64 ((rd_T41 l0 x3_2).f2), .int .i64 ((rd_T41 l0 x3_2).f3), .int .i64 0]) ?_ 4 _ rfl; (with_reducible repeat (first | refine blk_drewN ?_ _ | refine blk_drew ?_ | refine blk_alloc ?_ _)); refine blk_put (cs := #[.int .i64 ((rd_T41 l0 x3_2).f0), .int .i64 ((rd_T41 l0 x3_2).f1), .int .i64 ((rd_T41 l0 x3_2).f2), .int .i64 0, .int .i64 0]) ?_ 3 _ rfl; (with_reducible repeat (first | refine blk_drewN ?_ _ | refine blk_drew ?_ | refine blk_alloc ?_ _)); refine blk_put (cs := #[.int .i64 ((rd_T41 l0 x3_2).f0), .int .i64 ((rd_T41 l0 x3_2).f1), .int .i64 0, .int .i64 0, .int .i64 0]) ?_ 2 _ rfl; (with_reducible repeat (first | refine blk_drewN ?_ _ | refine blk_drew ?_ | refine blk_alloc ?_ _)); refine blk_put (cs := #[.int .i64 ((rd_T41 l0 x3_2).f0), .int .i64 0, .int .i64 0, .int .i64 0, .int .i64 0]) ?_ 1 _ rfl; (with_reducible repeat (first | refine blk_drewN ?_ _ | refine blk_drew ?_ | refine blk_alloc ?_ _)); refine blk_put (cs := #[.int .i64 0, .int .i64 0, .int .i64 0, .int .i64 0, .int .i64 0]) ?_ 0 _ rfl; (with_reducible repeat (first | refine blk_drewN ?_ _ | refine blk_drew ?_ | refine blk_alloc ?_ _)); exact BK131.out⟩, ⟨by repeat (first | (with_reducible first | exact HB.out | apply below_alloc | apply pw_below_drewN | apply below_drew1 | refine below_set ?_ GE131.out) | exact HB.out)⟩⟩
                          · rw [if_neg c21] at H
                            have c21b0 : decide (((rd_T41 l0 x3_2).f3) < t132) = false := decide_eq_false c21
                            clear c21
                            by_cases c23 : ((rd_T41 l0 x3_2).f3) > ((rd_T41 l0 x3_2).f2)
                            · rw [if_pos c23] at H
                              have c23b0 : decide (((rd_T41 l0 x3_2).f2) < ((rd_T41 l0 x3_2).f3)) = true := decide_eq_true c23
                              clear c23
                              have H' := Aside0.mk H
                              clear H
                              have hcz24_0 : w11.cell? ⟨gb131, 0, none⟩ = some (.int .i64 0) := (blk_cell BK131.out 0).trans rfl
                              have hcz24_1 : w11.cell? ⟨gb131, 1, none⟩ = some (.int .i64 0) := (blk_cell BK131.out 1).trans rfl
                              have hcz24_2 : w11.cell? ⟨gb131, 2, none⟩ = some (.int .i64 0) := (blk_cell BK131.out 2).trans rfl
                              have hcz24_3 : w11.cell? ⟨gb131, 3, none⟩ = some (.int .i64 0) := (blk_cell BK131.out 3).trans rfl
                              have hcz24_4 : w11.cell? ⟨gb131, 4, none⟩ = some (.int .i64 0) := (blk_cell BK131.out 4).trans rfl
                              have hfz24_0 := blk_frozen BK131.out 0
                              have hfz24_1 := blk_frozen BK131.out 1
                              have hfz24_2 := blk_frozen BK131.out 2
                              have hfz24_3 := blk_frozen BK131.out 3
                              have hfz24_4 := blk_frozen BK131.out 4
                              go_wp2
                              repeat (go_quiet (fail); try go_wp2)
                              go_meet
                              case rel => exact ⟨_, (true), (by first | rfl | (simp; done) | (simp [*]; done)), H', ⟨by have := HJ1.out; have := HK2.out; first | omega | exact Nat.le_refl _⟩, ⟨by (with_reducible repeat (first | refine blk_drewN ?_ _ | refine blk_drew ?_ | refine blk_alloc ?_ _)); refine blk_put (cs := #[.int .i64 ((rd_T41 l0 x3_2).f0), .int .i64 ((rd_T41 l0 x3_2).f1), .int .i64 ((rd_T41 l0 x3_2).f2), .int .i64 ((rd_T41 l0 x3_2).f3), .int .i64 0]) ?_ 4 _ rfl; (with_reducible repeat (first | refine blk_drewN ?_ _ | refine blk_drew ?_ | refine blk_alloc ?_ _)); refine blk_put (cs := #[.int .i64 ((rd_T41 l0 x3_2).f0), .int .i64 ((rd_T41 l0 x3_2).f1), .int .i64 ((rd_T41 l0 x3_2).f2), .int .i64 0, .int .i64 0]) ?_ 3 _ rfl; (with_reducible repeat (first | refine blk_drewN ?_ _ | refine blk_drew ?_ | refine blk_alloc ?_ _)); refine blk_put (cs := #[.int .i64 ((rd_T41 l0 x3_2).f0), .int .i64 ((rd_T41 l0 x3_2).f1), .int .i64 0, .int .i64 0, .int .i64 0]) ?_ 2 _ rfl; (with_reducible repeat (first | refine blk_drewN ?_ _ | refine blk_drew ?_ | refine blk_alloc ?_ _)); refine blk_put (cs := #[.int .i64 ((rd_T41 l0 x3_2).f0), .int .i64 0, .int .i64 0, .int .i64 0, .int .i64 0]) ?_ 1 _ rfl; (with_reducible repeat (first | refine blk_drewN ?_ _ | refine blk_drew ?_ | refine blk_alloc ?_ _)); refine blk_put (cs := #[.int .i64 0, .int .i64 0, .int .i64 0, .int .i64 0, .int .i64 0]) ?_ 0 _ rfl; (with_reducible repeat (first | refine blk_drewN ?_ _ | refine blk_drew ?_ | refine blk_alloc ?_ _)); exact BK131.out⟩, ⟨by repeat (first | (with_reducible first | exact HB.out | apply below_alloc | apply pw_below_drewN | apply below_drew1 | refine below_set ?_ GE131.out) | exact HB.out)⟩⟩
                            · rw [if_neg c23] at H
                              have c23b0 : decide (((rd_T41 l0 x3_2).f2) < ((rd_T41 l0 x3_2).f3)) = false := decide_eq_false c23
                              clear c23
                              by_cases c25 : ((rd_T41 l0 x3_2).f4) < 0
                              · rw [if_pos c25] at H
                                have c25b0 : decide (((rd_T41 l0 x3_2).f4) < 0) = true := decide_eq_true c25
                                clear c25
                                have H' := Aside0.mk H
                                clear H
                                have hcz26_0 : w11.cell? ⟨gb131, 0, none⟩ = some (.int .i64 0) := (blk_cell BK131.out 0).trans rfl
                                have hcz26_1 : w11.cell? ⟨gb131, 1, none⟩ = some (.int .i64 0) := (blk_cell BK131.out 1).trans rfl
                                have hcz26_2 : w11.cell? ⟨gb131, 2, none⟩ = some (.int .i64 0) := (blk_cell BK131.out 2).trans rfl
                                have hcz26_3 : w11.cell? ⟨gb131, 3, none⟩ = some (.int .i64 0) := (blk_cell BK131.out 3).trans rfl
                                have hcz26_4 : w11.cell? ⟨gb131, 4, none⟩ = some (.int .i64 0) := (blk_cell BK131.out 4).trans rfl
                                have hfz26_0 := blk_frozen BK131.out 0
                                have hfz26_1 := blk_frozen BK131.out 1
                                have hfz26_2 := blk_frozen BK131.out 2
                                have hfz26_3 := blk_frozen BK131.out 3
                                have hfz26_4 := blk_frozen BK131.out 4
                                go_wp2
                                repeat (go_quiet (fail); try go_wp2)
                                go_meet
                                case rel => exact ⟨_, (true), (by first | rfl | (simp; done) | (simp [*]; done)), H', ⟨by have := HJ1.out; have := HK2.out; first | omega | exact Nat.le_refl _⟩, ⟨by (with_reducible repeat (first | refine blk_drewN ?_ _ | refine blk_drew ?_ | refine blk_alloc ?_ _)); refine blk_put (cs := #[.int .i64 ((rd_T41 l0 x3_2).f0), .int .i64 ((rd_T41 l0 x3_2).f1), .int .i64 ((rd_T41 l0 x3_2).f2), .int .i64 ((rd_T41 l0 x3_2).f3), .int .i64 0]) ?_ 4 _ rfl; (with_reducible repeat (first | refine blk_drewN ?_ _ | refine blk_drew ?_ | refine blk_alloc ?_ _)); refine blk_put (cs := #[.int .i64 ((rd_T41 l0 x3_2).f0), .int .i64 ((rd_T41 l0 x3_2).f1), .int .i64 ((rd_T41 l0 x3_2).f2), .int .i64 0, .int .i64 0]) ?_ 3 _ rfl; (with_reducible repeat (first | refine blk_drewN ?_ _ | refine blk_drew ?_ | refine blk_alloc ?_ _)); refine blk_put (cs := #[.int .i64 ((rd_T41 l0 x3_2).f0), .int .i64 ((rd_T41 l0 x3_2).f1), .int .i64 0, .int .i64 0, .int .i64 0]) ?_ 2 _ rfl; (with_reducible repeat (first | refine blk_drewN ?_ _ | refine blk_drew ?_ | refine blk_alloc ?_ _)); refine blk_put (cs := #[.int .i64 ((rd_T41 l0 x3_2).f0), .int .i64 0, .int .i64 0, .int .i64 0, .int .i64 0]) ?_ 1 _ rfl; (with_reducible repeat (first | refine blk_drewN ?_ _ | refine blk_drew ?_ | refine blk_alloc ?_ _)); refine blk_put (cs := #[.int .i64 0, .int .i64 0, .int .i64 0, .int .i64 0, .int .i64 0]) ?_ 0 _ rfl; (with_reducible repeat (first | refine blk_drewN ?_ _ | refine blk_drew ?_ | refine blk_alloc ?_ _)); exact BK131.out⟩, ⟨by repeat (first | (with_reducible first | exact HB.out | apply below_alloc | apply pw_below_drewN | apply below_drew1 | refine below_set ?_ GE131.out) | exact HB.out)⟩⟩
                              · rw [if_neg c25] at H
                                have c25b0 : decide (((rd_T41 l0 x3_2).f4) < 0) = false := decide_eq_false c25
                                clear c25
                                have H' := Aside0.mk H
                                clear H
                                have hcz27_0 : w11.cell? ⟨gb131, 0, none⟩ = some (.int .i64 0) := (blk_cell BK131.out 0).trans rfl
                                have hcz27_1 : w11.cell? ⟨gb131, 1, none⟩ = some (.int .i64 0) := (blk_cell BK131.out 1).trans rfl
                                have hcz27_2 : w11.cell? ⟨gb131, 2, none⟩ = some (.int .i64 0) := (blk_cell BK131.out 2).trans rfl
                                have hcz27_3 : w11.cell? ⟨gb131, 3, none⟩ = some (.int .i64 0) := (blk_cell BK131.out 3).trans rfl
                                have hcz27_4 : w11.cell? ⟨gb131, 4, none⟩ = some (.int .i64 0) := (blk_cell BK131.out 4).trans rfl
                                have hfz27_0 := blk_frozen BK131.out 0
                                have hfz27_1 := blk_frozen BK131.out 1
                                have hfz27_2 := blk_frozen BK131.out 2
                                have hfz27_3 := blk_frozen BK131.out 3
                                have hfz27_4 := blk_frozen BK131.out 4
                                go_wp2
                                repeat (go_quiet (fail); try go_wp2)
                                go_meet
                                case rel => exact ⟨_, (decide (((rd_T41 l0 x3_2).f4) > (wrap64 (((rd_T41 l0 x3_2).f2) - t132)))), (by first | rfl | (simp; done) | (simp [*]; done)), H', ⟨by have := HJ1.out; have := HK2.out; first | omega | exact Nat.le_refl _⟩, ⟨by (with_reducible repeat (first | refine blk_drewN ?_ _ | refine blk_drew ?_ | refine blk_alloc ?_ _)); refine blk_put (cs := #[.int .i64 ((rd_T41 l0 x3_2).f0), .int .i64 ((rd_T41 l0 x3_2).f1), .int .i64 ((rd_T41 l0 x3_2).f2), .int .i64 ((rd_T41 l0 x3_2).f3), .int .i64 0]) ?_ 4 _ rfl; (with_reducible repeat (first | refine blk_drewN ?_ _ | refine blk_drew ?_ | refine blk_alloc ?_ _)); refine blk_put (cs := #[.int .i64 ((rd_T41 l0 x3_2).f0), .int .i64 ((rd_T41 l0 x3_2).f1), .int .i64 ((rd_T41 l0 x3_2).f2), .int .i64 0, .int .i64 0]) ?_ 3 _ rfl; (with_reducible repeat (first | refine blk_drewN ?_ _ | refine blk_drew ?_ | refine blk_alloc ?_ _)); refine blk_put (cs := #[.int .i64 ((rd_T41 l0 x3_2).f0), .int .i64 ((rd_T41 l0 x3_2).f1), .int .i64 0, .int .i64 0, .int .i64 0]) ?_ 2 _ rfl; (with_reducible repeat (first | refine blk_drewN ?_ _ | refine blk_drew ?_ | refine blk_alloc ?_ _)); refine blk_put (cs := #[.int .i64 ((rd_T41 l0 x3_2).f0), .int .i64 0, .int .i64 0, .int .i64 0, .int .i64 0]) ?_ 1 _ rfl; (with_reducible repeat (first | refine blk_drewN ?_ _ | refine blk_drew ?_ | refine blk_alloc ?_ _)); refine blk_put (cs := #[.int .i64 0, .int .i64 0, .int .i64 0, .int .i64 0, .int .i64 0]) ?_ 0 _ rfl; (with_reducible repeat (first | refine blk_drewN ?_ _ | refine blk_drew ?_ | refine blk_alloc ?_ _)); exact BK131.out⟩, ⟨by repeat (first | (with_reducible first | exact HB.out | apply below_alloc | apply pw_below_drewN | apply below_drew1 | refine below_set ?_ GE131.out) | exact HB.out)⟩⟩
                case rest =>
                  clear HC10
                  try clear c1
                  try clear p1
                  try clear q1
                  try clear hx1
                  try clear qi1
                  try clear c2
                  try clear p2
                  try clear c3
                  try clear c3b0
                  try clear c3b1
                  try clear c4
                  try clear c4b0
                  try clear c4b1
                  try clear c5
                  try clear c5b0
                  try clear c5b1
                  try clear c6
                  try clear p6
                  try clear c7
                  try clear c7b0
                  try clear c8
                  try clear c8b0
                  try clear p12
                  try clear q12
                  try clear hx12
                  try clear qi12
                  try clear c13
                  try clear c13b0
                  try clear p13
                  try clear q13
                  try clear hx13
                  try clear c15
                  try clear c15b0
                  try clear c17
                  try clear c17b0
                  try clear c19
                  try clear c19b0
                  try clear c21
                  try clear c21b0
                  try clear c23
                  try clear c23b0
                  try clear c25
                  try clear c25b0
                  try clear hcz12_0
                  try clear hcz12_1
                  try clear hcz12_2
                  try clear hcz12_3
                  try clear hcz12_4
                  try clear hcz14_0
                  try clear hcz14_1
                  try clear hcz14_2
                  try clear hcz14_3
                  try clear hcz14_4
                  try clear hcz16_0
                  try clear hcz16_1
                  try clear hcz16_2
                  try clear hcz16_3
                  try clear hcz16_4
                  try clear hcz18_0
                  try clear hcz18_1
                  try clear hcz18_2
                  try clear hcz18_3
                  try clear hcz18_4
                  try clear hcz20_0
                  try clear hcz20_1
                  try clear hcz20_2
                  try clear hcz20_3
                  try clear hcz20_4
                  try clear hcz22_0
                  try clear hcz22_1
                  try clear hcz22_2
                  try clear hcz22_3
                  try clear hcz22_4
                  try clear hcz24_0
                  try clear hcz24_1
                  try clear hcz24_2
                  try clear hcz24_3
                  try clear hcz24_4
                  try clear hcz26_0
                  try clear hcz26_1
                  try clear hcz26_2
                  try clear hcz26_3
                  try clear hcz26_4
                  try clear hcz27_0
                  try clear hcz27_1
                  try clear hcz27_2
                  try clear hcz27_3
                  try clear hcz27_4
                  try clear hfz12_0
                  try clear hfz12_1
                  try clear hfz12_2
                  try clear hfz12_3
                  try clear hfz12_4
                  try clear hfz14_0
                  try clear hfz14_1
                  try clear hfz14_2
                  try clear hfz14_3
                  try clear hfz14_4
                  try clear hfz16_0
                  try clear hfz16_1
                  try clear hfz16_2
                  try clear hfz16_3
                  try clear hfz16_4
                  try clear hfz18_0
                  try clear hfz18_1
                  try clear hfz18_2
                  try clear hfz18_3
                  try clear hfz18_4
                  try clear hfz20_0
                  try clear hfz20_1
                  try clear hfz20_2
                  try clear hfz20_3
                  try clear hfz20_4
                  try clear hfz22_0
                  try clear hfz22_1
                  try clear hfz22_2
                  try clear hfz22_3
                  try clear hfz22_4
                  try clear hfz24_0
                  try clear hfz24_1
                  try clear hfz24_2
                  try clear hfz24_3
                  try clear hfz24_4
                  try clear hfz26_0
                  try clear hfz26_1
                  try clear hfz26_2
                  try clear hfz26_3
                  try clear hfz26_4
                  try clear hfz27_0
                  try clear hfz27_1
                  try clear hfz27_2
                  try clear hfz27_3
                  try clear hfz27_4
                  try clear hx129_0
                  try clear hx129_1
                  try clear hx129_2
                  try clear hx129_3
                  try clear hx129_4
                  try clear hx130_0
                  try clear hx130_1
                  try clear hx130_2
                  try clear hx130_3
                  try clear hx130_4
                  try clear p1
                  try clear p129
                  try clear p130
                  try clear p2
                  try clear q1
                  try clear q129
                  try clear q130
                  obtain ⟨kq, x81_9, rfl, HA, HJ9, BK131, HB⟩ := hcut
                  cases kq with
                  | zero => exact absurd HA.out (by simp [spec_TableOk.j2])
                  | succ kj9 =>
                    have H := HA.out
                    clear HA
                    simp only [spec_TableOk.j2] at H
                    by_cases c28 : x81_9 = true
                    · subst c28
                      have H1 : (some false) = some r := by rw [if_pos rfl] at H; exact H
                      clear H
                      have H := H1
                      clear H1
                      obtain rfl := Option.some.inj H
                      go_wp2
                      repeat (go_quiet (fail); try go_wp2)
                      go_ret
                      exact ⟨by first | rfl | (simp [errW_none, errW_some] <;> rfl) | (simp [*, errW_none, errW_some] <;> rfl), by repeat (first | (with_reducible first | exact HB.out | apply below_alloc | apply pw_below_drewN | apply below_drew1 | refine below_set ?_ GE131.out) | exact HB.out)⟩
                    · replace c28 := Bool.eq_false_iff.mpr c28
                      subst c28
                      have H1 : (if ((rd_T41 l0 x3_2).f0) = 1 then (spec_TableOk.j3 kj9 l0 x3_2 (((rd_T41 l0 x3_2).f2) != t132) ((rd_T41 l0 x3_2).f0) ((rd_T41 l0 x3_2).f1) ((rd_T41 l0 x3_2).f2) ((rd_T41 l0 x3_2).f3) ((rd_T41 l0 x3_2).f4)) else (spec_TableOk.j3 kj9 l0 x3_2 false ((rd_T41 l0 x3_2).f0) ((rd_T41 l0 x3_2).f1) ((rd_T41 l0 x3_2).f2) ((rd_T41 l0 x3_2).f3) ((rd_T41 l0 x3_2).f4))) = some r := by rw [if_neg (show ¬ (false = true) by decide)] at H; exact H
                      clear H
                      have H := H1
                      clear H1
                      have HC29 := Aside0.mk H
                      clear H
                      go_upto_region 10 with (fail)
                      repeat (go_quiet (fail); go_upto_region 10 with (fail))
                      go_cut [90] (fun v90 wc => ∃ (kq : Nat) (x90_28 : Bool), v90 = .bool x90_28 ∧ Aside0 (spec_TableOk.j3 kq l0 x3_2 x90_28 ((rd_T41 l0 x3_2).f0) ((rd_T41 l0 x3_2).f1) ((rd_T41 l0 x3_2).f2) ((rd_T41 l0 x3_2).f3) ((rd_T41 l0 x3_2).f4) = some r) ∧ Aside0 (kq ≤ kj9) ∧ Aside0 (wc.heap[gb131]? = some (.cells #[.int .i64 ((rd_T41 l0 x3_2).f0), .int .i64 ((rd_T41 l0 x3_2).f1), .int .i64 ((rd_T41 l0 x3_2).f2), .int .i64 ((rd_T41 l0 x3_2).f3), .int .i64 ((rd_T41 l0 x3_2).f4)] 41 (0, 0))) ∧ Aside0 (Below w.heap.size w wc))
                      case first =>
                        have H := HC29.out
                        clear HC29
                        by_cases c30 : ((rd_T41 l0 x3_2).f0) = 1
                        · rw [if_pos c30] at H
                          have c30b0 : (((rd_T41 l0 x3_2).f0) == 1) = true := beq_iff_eq.mpr c30
                          have c30b1 : (((rd_T41 l0 x3_2).f0) != 1) = false := bne_eq_false_iff_eq.mpr c30
                          clear c30
                          (first | rw [c30b0] | (simp only [i64_w, i32_w]; rw [c30b0]) | skip)
                          have H' := Aside0.mk H
                          clear H
                          have hcz31_0 : wc.cell? ⟨gb131, 0, none⟩ = some (.int .i64 ((rd_T41 l0 x3_2).f0)) := (blk_cell BK131.out 0).trans rfl
                          have hcz31_1 : wc.cell? ⟨gb131, 1, none⟩ = some (.int .i64 ((rd_T41 l0 x3_2).f1)) := (blk_cell BK131.out 1).trans rfl
                          have hcz31_2 : wc.cell? ⟨gb131, 2, none⟩ = some (.int .i64 ((rd_T41 l0 x3_2).f2)) := (blk_cell BK131.out 2).trans rfl
                          have hcz31_3 : wc.cell? ⟨gb131, 3, none⟩ = some (.int .i64 ((rd_T41 l0 x3_2).f3)) := (blk_cell BK131.out 3).trans rfl
                          have hcz31_4 : wc.cell? ⟨gb131, 4, none⟩ = some (.int .i64 ((rd_T41 l0 x3_2).f4)) := (blk_cell BK131.out 4).trans rfl
                          have hfz31_0 := blk_frozen BK131.out 0
                          have hfz31_1 := blk_frozen BK131.out 1
                          have hfz31_2 := blk_frozen BK131.out 2
                          have hfz31_3 := blk_frozen BK131.out 3
                          have hfz31_4 := blk_frozen BK131.out 4
                          go_wp2
                          repeat (go_quiet (fail); try go_wp2)
                          go_meet
                          case rel => exact ⟨_, ((((rd_T41 l0 x3_2).f2) != t132)), (by first | rfl | (simp; done) | (simp [*]; done)), H', ⟨by have := HJ1.out; have := HK2.out; have := HJ9.out; first | omega | exact Nat.le_refl _⟩, ⟨by (with_reducible repeat (first | refine blk_drewN ?_ _ | refine blk_drew ?_ | refine blk_alloc ?_ _)); exact BK131.out⟩, ⟨by repeat (first | (with_reducible first | exact HB.out | apply below_alloc | apply pw_below_drewN | apply below_drew1 | refine below_set ?_ GE131.out) | exact HB.out)⟩⟩
                        · rw [if_neg c30] at H
                          have c30b0 : (((rd_T41 l0 x3_2).f0) == 1) = false := beq_eq_false_iff_ne.mpr c30
                          have c30b1 : (((rd_T41 l0 x3_2).f0) != 1) = true := bne_iff_ne.mpr c30
                          (first | rw [c30b0] | (simp only [i64_w, i32_w]; rw [c30b0]) | skip)
                          have H' := Aside0.mk H
                          clear H
                          have hcz32_0 : wc.cell? ⟨gb131, 0, none⟩ = some (.int .i64 ((rd_T41 l0 x3_2).f0)) := (blk_cell BK131.out 0).trans rfl
                          have hcz32_1 : wc.cell? ⟨gb131, 1, none⟩ = some (.int .i64 ((rd_T41 l0 x3_2).f1)) := (blk_cell BK131.out 1).trans rfl
                          have hcz32_2 : wc.cell? ⟨gb131, 2, none⟩ = some (.int .i64 ((rd_T41 l0 x3_2).f2)) := (blk_cell BK131.out 2).trans rfl
                          have hcz32_3 : wc.cell? ⟨gb131, 3, none⟩ = some (.int .i64 ((rd_T41 l0 x3_2).f3)) := (blk_cell BK131.out 3).trans rfl
                          have hcz32_4 : wc.cell? ⟨gb131, 4, none⟩ = some (.int .i64 ((rd_T41 l0 x3_2).f4)) := (blk_cell BK131.out 4).trans rfl
                          have hfz32_0 := blk_frozen BK131.out 0
                          have hfz32_1 := blk_frozen BK131.out 1
                          have hfz32_2 := blk_frozen BK131.out 2
                          have hfz32_3 := blk_frozen BK131.out 3
                          have hfz32_4 := blk_frozen BK131.out 4
                          go_wp2
                          repeat (go_quiet (fail); try go_wp2)
                          go_meet
                          case rel => exact ⟨_, (false), (by first | rfl | (simp; done) | (simp [*]; done)), H', ⟨by have := HJ1.out; have := HK2.out; have := HJ9.out; first | omega | exact Nat.le_refl _⟩, ⟨by (with_reducible repeat (first | refine blk_drewN ?_ _ | refine blk_drew ?_ | refine blk_alloc ?_ _)); exact BK131.out⟩, ⟨by repeat (first | (with_reducible first | exact HB.out | apply below_alloc | apply pw_below_drewN | apply below_drew1 | refine below_set ?_ GE131.out) | exact HB.out)⟩⟩
                      case rest =>
                        clear HC29
                        try clear c1
                        try clear p1
                        try clear q1
                        try clear hx1
                        try clear qi1
                        try clear c2
                        try clear p2
                        try clear c3
                        try clear c3b0
                        try clear c3b1
                        try clear c4
                        try clear c4b0
                        try clear c4b1
                        try clear c5
                        try clear c5b0
                        try clear c5b1
                        try clear c6
                        try clear p6
                        try clear c7
                        try clear c7b0
                        try clear c8
                        try clear c8b0
                        try clear p12
                        try clear q12
                        try clear hx12
                        try clear qi12
                        try clear c13
                        try clear c13b0
                        try clear p13
                        try clear q13
                        try clear hx13
                        try clear c15
                        try clear c15b0
                        try clear c17
                        try clear c17b0
                        try clear c19
                        try clear c19b0
                        try clear c21
                        try clear c21b0
                        try clear c23
                        try clear c23b0
                        try clear c25
                        try clear c25b0
                        try clear c28
                        try clear c30
                        try clear c30b0
                        try clear c30b1
                        try clear hcz12_0
                        try clear hcz12_1
                        try clear hcz12_2
                        try clear hcz12_3
                        try clear hcz12_4
                        try clear hcz14_0
                        try clear hcz14_1
                        try clear hcz14_2
                        try clear hcz14_3
                        try clear hcz14_4
                        try clear hcz16_0
                        try clear hcz16_1
                        try clear hcz16_2
                        try clear hcz16_3
                        try clear hcz16_4
                        try clear hcz18_0
                        try clear hcz18_1
                        try clear hcz18_2
                        try clear hcz18_3
                        try clear hcz18_4
                        try clear hcz20_0
                        try clear hcz20_1
                        try clear hcz20_2
                        try clear hcz20_3
                        try clear hcz20_4
                        try clear hcz22_0
                        try clear hcz22_1
                        try clear hcz22_2
                        try clear hcz22_3
                        try clear hcz22_4
                        try clear hcz24_0
                        try clear hcz24_1
                        try clear hcz24_2
                        try clear hcz24_3
                        try clear hcz24_4
                        try clear hcz26_0
                        try clear hcz26_1
                        try clear hcz26_2
                        try clear hcz26_3
                        try clear hcz26_4
                        try clear hcz27_0
                        try clear hcz27_1
                        try clear hcz27_2
                        try clear hcz27_3
                        try clear hcz27_4
                        try clear hcz31_0
                        try clear hcz31_1
                        try clear hcz31_2
                        try clear hcz31_3
                        try clear hcz31_4
                        try clear hcz32_0
                        try clear hcz32_1
                        try clear hcz32_2
                        try clear hcz32_3
                        try clear hcz32_4
                        try clear hfz12_0
                        try clear hfz12_1
                        try clear hfz12_2
                        try clear hfz12_3
                        try clear hfz12_4
                        try clear hfz14_0
                        try clear hfz14_1
                        try clear hfz14_2
                        try clear hfz14_3
                        try clear hfz14_4
                        try clear hfz16_0
                        try clear hfz16_1
                        try clear hfz16_2
                        try clear hfz16_3
                        try clear hfz16_4
                        try clear hfz18_0
                        try clear hfz18_1
                        try clear hfz18_2
                        try clear hfz18_3
                        try clear hfz18_4
                        try clear hfz20_0
                        try clear hfz20_1
                        try clear hfz20_2
                        try clear hfz20_3
                        try clear hfz20_4
                        try clear hfz22_0
                        try clear hfz22_1
                        try clear hfz22_2
                        try clear hfz22_3
                        try clear hfz22_4
                        try clear hfz24_0
                        try clear hfz24_1
                        try clear hfz24_2
                        try clear hfz24_3
                        try clear hfz24_4
                        try clear hfz26_0
                        try clear hfz26_1
                        try clear hfz26_2
                        try clear hfz26_3
                        try clear hfz26_4
                        try clear hfz27_0
                        try clear hfz27_1
                        try clear hfz27_2
                        try clear hfz27_3
                        try clear hfz27_4
                        try clear hfz31_0
                        try clear hfz31_1
                        try clear hfz31_2
                        try clear hfz31_3
                        try clear hfz31_4
                        try clear hfz32_0
                        try clear hfz32_1
                        try clear hfz32_2
                        try clear hfz32_3
                        try clear hfz32_4
                        try clear hx129_0
                        try clear hx129_1
                        try clear hx129_2
                        try clear hx129_3
                        try clear hx129_4
                        try clear hx130_0
                        try clear hx130_1
                        try clear hx130_2
                        try clear hx130_3
                        try clear hx130_4
                        try clear p1
                        try clear p12
                        try clear p129
                        try clear p13
                        try clear p130
                        try clear p2
                        try clear p6
                        try clear q1
                        try clear q12
                        try clear q129
                        try clear q13
                        try clear q130
                        obtain ⟨kq, x90_28, rfl, HA, HJ28, BK131, HB⟩ := hcut
                        cases kq with
                        | zero => exact absurd HA.out (by simp [spec_TableOk.j3])
                        | succ kj28 =>
                          have H := HA.out
                          clear HA
                          simp only [spec_TableOk.j3] at H
                          by_cases c33 : x90_28 = true
                          · subst c33
                            have H1 : (some false) = some r := by rw [if_pos rfl] at H; exact H
                            clear H
                            have H := H1
                            clear H1
                            obtain rfl := Option.some.inj H
                            go_wp2
                            repeat (go_quiet (fail); try go_wp2)
                            go_ret
                            exact ⟨by first | rfl | (simp [errW_none, errW_some] <;> rfl) | (simp [*, errW_none, errW_some] <;> rfl), by repeat (first | (with_reducible first | exact HB.out | apply below_alloc | apply pw_below_drewN | apply below_drew1 | refine below_set ?_ GE131.out) | exact HB.out)⟩
                          · replace c33 := Bool.eq_false_iff.mpr c33
                            subst c33
                            have H1 : (if ((((rd_T41 l0 x3_2).f0) == 2) != (decide (((rd_T41 l0 x3_2).f1) ≥ 0))) = true then (spec_TableOk.j4 kj28 l0 x3_2 true ((rd_T41 l0 x3_2).f0) ((rd_T41 l0 x3_2).f1) ((rd_T41 l0 x3_2).f2) ((rd_T41 l0 x3_2).f3) ((rd_T41 l0 x3_2).f4)) else (if ((rd_T41 l0 x3_2).f1) < (-1) then (spec_TableOk.j4 kj28 l0 x3_2 true ((rd_T41 l0 x3_2).f0) ((rd_T41 l0 x3_2).f1) ((rd_T41 l0 x3_2).f2) ((rd_T41 l0 x3_2).f3) ((rd_T41 l0 x3_2).f4)) else (spec_TableOk.j4 kj28 l0 x3_2 (decide (((rd_T41 l0 x3_2).f1) > 3)) ((rd_T41 l0 x3_2).f0) ((rd_T41 l0 x3_2).f1) ((rd_T41 l0 x3_2).f2) ((rd_T41 l0 x3_2).f3) ((rd_T41 l0 x3_2).f4)))) = some r := by rw [if_neg (show ¬ (false = true) by decide)] at H; exact H
                            clear H
                            have H := H1
                            clear H1
                            have HC34 := Aside0.mk H
                            clear H
                            go_upto_region 12 with (fail)
                            repeat (go_quiet (fail); go_upto_region 12 with (fail))
                            go_cut [107] (fun v107 wc => ∃ (kq : Nat) (x107_33 : Bool), v107 = .bool x107_33 ∧ Aside0 (spec_TableOk.j4 kq l0 x3_2 x107_33 ((rd_T41 l0 x3_2).f0) ((rd_T41 l0 x3_2).f1) ((rd_T41 l0 x3_2).f2) ((rd_T41 l0 x3_2).f3) ((rd_T41 l0 x3_2).f4) = some r) ∧ Aside0 (kq ≤ kj28) ∧ Aside0 (wc.heap[gb131]? = some (.cells #[.int .i64 ((rd_T41 l0 x3_2).f0), .int .i64 ((rd_T41 l0 x3_2).f1), .int .i64 ((rd_T41 l0 x3_2).f2), .int .i64 ((rd_T41 l0 x3_2).f3), .int .i64 ((rd_T41 l0 x3_2).f4)] 41 (0, 0))) ∧ Aside0 (Below w.heap.size w wc))
                            case first =>
                              have H := HC34.out
                              clear HC34
                              by_cases c35 : ((((rd_T41 l0 x3_2).f0) == 2) != (decide (((rd_T41 l0 x3_2).f1) ≥ 0))) = true
                              · rw [if_pos c35] at H
                                have c35b0 : ((((rd_T41 l0 x3_2).f0) == 2) != (decide (((rd_T41 l0 x3_2).f1) ≥ 0))) = true := c35
                                (try (have c35b1 : decide ((((rd_T41 l0 x3_2).f0) == 2) = (decide (((rd_T41 l0 x3_2).f1) ≥ 0))) = false := by simpa using c35))
                                (try (have c35b2 : ((((rd_T41 l0 x3_2).f0) == 2) == (decide (((rd_T41 l0 x3_2).f1) ≥ 0))) = false := by simpa using c35))
                                (try (have c35b3 : ¬ ((((rd_T41 l0 x3_2).f0) == 2) = (decide (((rd_T41 l0 x3_2).f1) ≥ 0))) := by simpa using c35))
                                clear c35
                                (first | rw [c35b0] | (simp only [i64_w, i32_w]; rw [c35b0]) | skip)
                                have H' := Aside0.mk H
                                clear H
                                have hcz36_0 : wc.cell? ⟨gb131, 0, none⟩ = some (.int .i64 ((rd_T41 l0 x3_2).f0)) := (blk_cell BK131.out 0).trans rfl
                                have hcz36_1 : wc.cell? ⟨gb131, 1, none⟩ = some (.int .i64 ((rd_T41 l0 x3_2).f1)) := (blk_cell BK131.out 1).trans rfl
                                have hcz36_2 : wc.cell? ⟨gb131, 2, none⟩ = some (.int .i64 ((rd_T41 l0 x3_2).f2)) := (blk_cell BK131.out 2).trans rfl
                                have hcz36_3 : wc.cell? ⟨gb131, 3, none⟩ = some (.int .i64 ((rd_T41 l0 x3_2).f3)) := (blk_cell BK131.out 3).trans rfl
                                have hcz36_4 : wc.cell? ⟨gb131, 4, none⟩ = some (.int .i64 ((rd_T41 l0 x3_2).f4)) := (blk_cell BK131.out 4).trans rfl
                                have hfz36_0 := blk_frozen BK131.out 0
                                have hfz36_1 := blk_frozen BK131.out 1
                                have hfz36_2 := blk_frozen BK131.out 2
                                have hfz36_3 := blk_frozen BK131.out 3
                                have hfz36_4 := blk_frozen BK131.out 4
                                go_wp2
                                repeat (go_quiet (fail); try go_wp2)
                                go_meet
                                case rel => exact ⟨_, (true), (by first | rfl | (simp; done) | (simp [*]; done)), H', ⟨by have := HJ1.out; have := HK2.out; have := HJ9.out; have := HJ28.out; first | omega | exact Nat.le_refl _⟩, ⟨by (with_reducible repeat (first | refine blk_drewN ?_ _ | refine blk_drew ?_ | refine blk_alloc ?_ _)); exact BK131.out⟩, ⟨by repeat (first | (with_reducible first | exact HB.out | apply below_alloc | apply pw_below_drewN | apply below_drew1 | refine below_set ?_ GE131.out) | exact HB.out)⟩⟩
                              · rw [if_neg c35] at H
                                have c35b0 : ((((rd_T41 l0 x3_2).f0) == 2) != (decide (((rd_T41 l0 x3_2).f1) ≥ 0))) = false := by simpa using c35
                                (try (have c35b1 : decide ((((rd_T41 l0 x3_2).f0) == 2) = (decide (((rd_T41 l0 x3_2).f1) ≥ 0))) = true := by simpa using c35))
                                (try (have c35b2 : ((((rd_T41 l0 x3_2).f0) == 2) == (decide (((rd_T41 l0 x3_2).f1) ≥ 0))) = true := by simpa using c35))
                                clear c35
                                (first | rw [c35b0] | (simp only [i64_w, i32_w]; rw [c35b0]) | skip)
                                by_cases c37 : ((rd_T41 l0 x3_2).f1) < (-1)
                                · rw [if_pos c37] at H
                                  have c37b0 : decide (((rd_T41 l0 x3_2).f1) < (-1)) = true := decide_eq_true c37
                                  clear c37
                                  have H' := Aside0.mk H
                                  clear H
                                  have hcz38_0 : wc.cell? ⟨gb131, 0, none⟩ = some (.int .i64 ((rd_T41 l0 x3_2).f0)) := (blk_cell BK131.out 0).trans rfl
                                  have hcz38_1 : wc.cell? ⟨gb131, 1, none⟩ = some (.int .i64 ((rd_T41 l0 x3_2).f1)) := (blk_cell BK131.out 1).trans rfl
                                  have hcz38_2 : wc.cell? ⟨gb131, 2, none⟩ = some (.int .i64 ((rd_T41 l0 x3_2).f2)) := (blk_cell BK131.out 2).trans rfl
                                  have hcz38_3 : wc.cell? ⟨gb131, 3, none⟩ = some (.int .i64 ((rd_T41 l0 x3_2).f3)) := (blk_cell BK131.out 3).trans rfl
                                  have hcz38_4 : wc.cell? ⟨gb131, 4, none⟩ = some (.int .i64 ((rd_T41 l0 x3_2).f4)) := (blk_cell BK131.out 4).trans rfl
                                  have hfz38_0 := blk_frozen BK131.out 0
                                  have hfz38_1 := blk_frozen BK131.out 1
                                  have hfz38_2 := blk_frozen BK131.out 2
                                  have hfz38_3 := blk_frozen BK131.out 3
                                  have hfz38_4 := blk_frozen BK131.out 4
                                  go_wp2
                                  repeat (go_quiet (fail); try go_wp2)
                                  go_meet
                                  case rel => exact ⟨_, (true), (by first | rfl | (simp; done) | (simp [*]; done)), H', ⟨by have := HJ1.out; have := HK2.out; have := HJ9.out; have := HJ28.out; first | omega | exact Nat.le_refl _⟩, ⟨by (with_reducible repeat (first | refine blk_drewN ?_ _ | refine blk_drew ?_ | refine blk_alloc ?_ _)); exact BK131.out⟩, ⟨by repeat (first | (with_reducible first | exact HB.out | apply below_alloc | apply pw_below_drewN | apply below_drew1 | refine below_set ?_ GE131.out) | exact HB.out)⟩⟩
                                · rw [if_neg c37] at H
                                  have c37b0 : decide (((rd_T41 l0 x3_2).f1) < (-1)) = false := decide_eq_false c37
                                  clear c37
                                  have H' := Aside0.mk H
                                  clear H
                                  have hcz39_0 : wc.cell? ⟨gb131, 0, none⟩ = some (.int .i64 ((rd_T41 l0 x3_2).f0)) := (blk_cell BK131.out 0).trans rfl
                                  have hcz39_1 : wc.cell? ⟨gb131, 1, none⟩ = some (.int .i64 ((rd_T41 l0 x3_2).f1)) := (blk_cell BK131.out 1).trans rfl
                                  have hcz39_2 : wc.cell? ⟨gb131, 2, none⟩ = some (.int .i64 ((rd_T41 l0 x3_2).f2)) := (blk_cell BK131.out 2).trans rfl
                                  have hcz39_3 : wc.cell? ⟨gb131, 3, none⟩ = some (.int .i64 ((rd_T41 l0 x3_2).f3)) := (blk_cell BK131.out 3).trans rfl
                                  have hcz39_4 : wc.cell? ⟨gb131, 4, none⟩ = some (.int .i64 ((rd_T41 l0 x3_2).f4)) := (blk_cell BK131.out 4).trans rfl
                                  have hfz39_0 := blk_frozen BK131.out 0
                                  have hfz39_1 := blk_frozen BK131.out 1
                                  have hfz39_2 := blk_frozen BK131.out 2
                                  have hfz39_3 := blk_frozen BK131.out 3
                                  have hfz39_4 := blk_frozen BK131.out 4
                                  go_wp2
                                  repeat (go_quiet (fail); try go_wp2)
                                  go_meet
                                  case rel => exact ⟨_, (decide (((rd_T41 l0 x3_2).f1) > 3)), (by first | rfl | (simp; done) | (simp [*]; done)), H', ⟨by have := HJ1.out; have := HK2.out; have := HJ9.out; have := HJ28.out; first | omega | exact Nat.le_refl _⟩, ⟨by (with_reducible repeat (first | refine blk_drewN ?_ _ | refine blk_drew ?_ | refine blk_alloc ?_ _)); exact BK131.out⟩, ⟨by repeat (first | (with_reducible first | exact HB.out | apply below_alloc | apply pw_below_drewN | apply below_drew1 | refine below_set ?_ GE131.out) | exact HB.out)⟩⟩
                            case rest =>
                              clear HC34
                              try clear c1
                              try clear p1
                              try clear q1
                              try clear hx1
                              try clear qi1
                              try clear c2
                              try clear p2
                              try clear c3
                              try clear c3b0
                              try clear c3b1
                              try clear c4
                              try clear c4b0
                              try clear c4b1
                              try clear c5
                              try clear c5b0
                              try clear c5b1
                              try clear c6
                              try clear p6
                              try clear c7
                              try clear c7b0
                              try clear c8
                              try clear c8b0
                              try clear p12
                              try clear q12
                              try clear hx12
                              try clear qi12
                              try clear c13
                              try clear c13b0
                              try clear p13
                              try clear q13
                              try clear hx13
                              try clear c15
                              try clear c15b0
                              try clear c17
                              try clear c17b0
                              try clear c19
                              try clear c19b0
                              try clear c21
                              try clear c21b0
                              try clear c23
                              try clear c23b0
                              try clear c25
                              try clear c25b0
                              try clear c28
                              try clear c30
                              try clear c30b0
                              try clear c30b1
                              try clear c33
                              try clear c35
                              try clear c35b0
                              try clear c35b1
                              try clear c35b2
                              try clear c37
                              try clear c37b0
                              try clear hcz12_0
                              try clear hcz12_1
                              try clear hcz12_2
                              try clear hcz12_3
                              try clear hcz12_4
                              try clear hcz14_0
                              try clear hcz14_1
                              try clear hcz14_2
                              try clear hcz14_3
                              try clear hcz14_4
                              try clear hcz16_0
                              try clear hcz16_1
                              try clear hcz16_2
                              try clear hcz16_3
                              try clear hcz16_4
                              try clear hcz18_0
                              try clear hcz18_1
                              try clear hcz18_2
                              try clear hcz18_3
                              try clear hcz18_4
                              try clear hcz20_0
                              try clear hcz20_1
                              try clear hcz20_2
                              try clear hcz20_3
                              try clear hcz20_4
                              try clear hcz22_0
                              try clear hcz22_1
                              try clear hcz22_2
                              try clear hcz22_3
                              try clear hcz22_4
                              try clear hcz24_0
                              try clear hcz24_1
                              try clear hcz24_2
                              try clear hcz24_3
                              try clear hcz24_4
                              try clear hcz26_0
                              try clear hcz26_1
                              try clear hcz26_2
                              try clear hcz26_3
                              try clear hcz26_4
                              try clear hcz27_0
                              try clear hcz27_1
                              try clear hcz27_2
                              try clear hcz27_3
                              try clear hcz27_4
                              try clear hcz31_0
                              try clear hcz31_1
                              try clear hcz31_2
                              try clear hcz31_3
                              try clear hcz31_4
                              try clear hcz32_0
                              try clear hcz32_1
                              try clear hcz32_2
                              try clear hcz32_3
                              try clear hcz32_4
                              try clear hcz36_0
                              try clear hcz36_1
                              try clear hcz36_2
                              try clear hcz36_3
                              try clear hcz36_4
                              try clear hcz38_0
                              try clear hcz38_1
                              try clear hcz38_2
                              try clear hcz38_3
                              try clear hcz38_4
                              try clear hcz39_0
                              try clear hcz39_1
                              try clear hcz39_2
                              try clear hcz39_3
                              try clear hcz39_4
                              try clear hfz12_0
                              try clear hfz12_1
                              try clear hfz12_2
                              try clear hfz12_3
                              try clear hfz12_4
                              try clear hfz14_0
                              try clear hfz14_1
                              try clear hfz14_2
                              try clear hfz14_3
                              try clear hfz14_4
                              try clear hfz16_0
                              try clear hfz16_1
                              try clear hfz16_2
                              try clear hfz16_3
                              try clear hfz16_4
                              try clear hfz18_0
                              try clear hfz18_1
                              try clear hfz18_2
                              try clear hfz18_3
                              try clear hfz18_4
                              try clear hfz20_0
                              try clear hfz20_1
                              try clear hfz20_2
                              try clear hfz20_3
                              try clear hfz20_4
                              try clear hfz22_0
                              try clear hfz22_1
                              try clear hfz22_2
                              try clear hfz22_3
                              try clear hfz22_4
                              try clear hfz24_0
                              try clear hfz24_1
                              try clear hfz24_2
                              try clear hfz24_3
                              try clear hfz24_4
                              try clear hfz26_0
                              try clear hfz26_1
                              try clear hfz26_2
                              try clear hfz26_3
                              try clear hfz26_4
                              try clear hfz27_0
                              try clear hfz27_1
                              try clear hfz27_2
                              try clear hfz27_3
                              try clear hfz27_4
                              try clear hfz31_0
                              try clear hfz31_1
                              try clear hfz31_2
                              try clear hfz31_3
                              try clear hfz31_4
                              try clear hfz32_0
                              try clear hfz32_1
                              try clear hfz32_2
                              try clear hfz32_3
                              try clear hfz32_4
                              try clear hfz36_0
                              try clear hfz36_1
                              try clear hfz36_2
                              try clear hfz36_3
                              try clear hfz36_4
                              try clear hfz38_0
                              try clear hfz38_1
                              try clear hfz38_2
                              try clear hfz38_3
                              try clear hfz38_4
                              try clear hfz39_0
                              try clear hfz39_1
                              try clear hfz39_2
                              try clear hfz39_3
                              try clear hfz39_4
                              try clear hx129_0
                              try clear hx129_1
                              try clear hx129_2
                              try clear hx129_3
                              try clear hx129_4
                              try clear hx130_0
                              try clear hx130_1
                              try clear hx130_2
                              try clear hx130_3
                              try clear hx130_4
                              try clear p1
                              try clear p12
                              try clear p129
                              try clear p13
                              try clear p130
                              try clear p2
                              try clear p6
                              try clear q1
                              try clear q12
                              try clear q129
                              try clear q13
                              try clear q130
                              obtain ⟨kq, x107_33, rfl, HA, HJ33, BK131, HB⟩ := hcut
                              cases kq with
                              | zero => exact absurd HA.out (by simp [spec_TableOk.j4])
                              | succ kj33 =>
                                have H := HA.out
                                clear HA
                                simp only [spec_TableOk.j4] at H
                                by_cases c40 : x107_33 = true
                                · subst c40
                                  have H1 : (some false) = some r := by rw [if_pos rfl] at H; exact H
                                  clear H
                                  have H := H1
                                  clear H1
                                  obtain rfl := Option.some.inj H
                                  go_wp2
                                  repeat (go_quiet (fail); try go_wp2)
                                  go_ret
                                  exact ⟨by first | rfl | (simp [errW_none, errW_some] <;> rfl) | (simp [*, errW_none, errW_some] <;> rfl), by repeat (first | (with_reducible first | exact HB.out | apply below_alloc | apply pw_below_drewN | apply below_drew1 | refine below_set ?_ GE131.out) | exact HB.out)⟩
                                · replace c40 := Bool.eq_false_iff.mpr c40
                                  subst c40
                                  have H1 : (spec_TableOk.l1 kj33 l0 x3_2 1 ((rd_T41 l0 x3_2).f0) ((rd_T41 l0 x3_2).f1) ((rd_T41 l0 x3_2).f2) ((rd_T41 l0 x3_2).f3) ((rd_T41 l0 x3_2).f4)) = some r := by rw [if_neg (show ¬ (false = true) by decide)] at H; exact H
                                  clear H
                                  have H := H1
                                  clear H1
                                  have H' := Aside0.mk H
                                  clear H
                                  go_wp2
                                  repeat (go_quiet (fail); try go_wp2)
                                  go_loopg [6] kj33 (fun kq v6 w' => ∃ (x6_6 : Int), v6 = .int .i64 x6_6 ∧ Aside0 (spec_TableOk.l1 kq l0 x3_2 x6_6 ((rd_T41 l0 x3_2).f0) ((rd_T41 l0 x3_2).f1) ((rd_T41 l0 x3_2).f2) ((rd_T41 l0 x3_2).f3) ((rd_T41 l0 x3_2).f4) = some r) ∧ Aside0 (kq ≤ kj33) ∧ Aside0 (w'.heap[gb131]? = some (.cells #[.int .i64 ((rd_T41 l0 x3_2).f0), .int .i64 ((rd_T41 l0 x3_2).f1), .int .i64 ((rd_T41 l0 x3_2).f2), .int .i64 ((rd_T41 l0 x3_2).f3), .int .i64 ((rd_T41 l0 x3_2).f4)] 41 (0, 0))) ∧ Aside0 (Below w.heap.size w w'))
                                  case atStart => exact ⟨(1), (by first | rfl | (simp; done) | (simp [*]; done)), H', ⟨Nat.le_refl _⟩, ⟨by (with_reducible repeat (first | refine blk_drewN ?_ _ | refine blk_drew ?_ | refine blk_alloc ?_ _)); exact BK131.out⟩, ⟨by repeat (first | (with_reducible first | exact HB.out | apply below_alloc | apply pw_below_drewN | apply below_drew1 | refine below_set ?_ GE131.out) | exact HB.out)⟩⟩
                                  case round =>
                                    clear H'
                                    try clear c1
                                    try clear p1
                                    try clear q1
                                    try clear hx1
                                    try clear qi1
                                    try clear c2
                                    try clear p2
                                    try clear c3
                                    try clear c3b0
                                    try clear c3b1
                                    try clear c4
                                    try clear c4b0
                                    try clear c4b1
                                    try clear c5
                                    try clear c5b0
                                    try clear c5b1
                                    try clear c6
                                    try clear p6
                                    try clear c7
                                    try clear c7b0
                                    try clear c8
                                    try clear c8b0
                                    try clear p12
                                    try clear q12
                                    try clear hx12
                                    try clear qi12
                                    try clear c13
                                    try clear c13b0
                                    try clear p13
                                    try clear q13
                                    try clear hx13
                                    try clear c15
                                    try clear c15b0
                                    try clear c17
                                    try clear c17b0
                                    try clear c19
                                    try clear c19b0
                                    try clear c21
                                    try clear c21b0
                                    try clear c23
                                    try clear c23b0
                                    try clear c25
                                    try clear c25b0
                                    try clear c28
                                    try clear c30
                                    try clear c30b0
                                    try clear c30b1
                                    try clear c33
                                    try clear c35
                                    try clear c35b0
                                    try clear c35b1
                                    try clear c35b2
                                    try clear c37
                                    try clear c37b0
                                    try clear c40
                                    try clear hcz12_0
                                    try clear hcz12_1
                                    try clear hcz12_2
                                    try clear hcz12_3
                                    try clear hcz12_4
                                    try clear hcz14_0
                                    try clear hcz14_1
                                    try clear hcz14_2
                                    try clear hcz14_3
                                    try clear hcz14_4
                                    try clear hcz16_0
                                    try clear hcz16_1
                                    try clear hcz16_2
                                    try clear hcz16_3
                                    try clear hcz16_4
                                    try clear hcz18_0
                                    try clear hcz18_1
                                    try clear hcz18_2
                                    try clear hcz18_3
                                    try clear hcz18_4
                                    try clear hcz20_0
                                    try clear hcz20_1
                                    try clear hcz20_2
                                    try clear hcz20_3
                                    try clear hcz20_4
                                    try clear hcz22_0
                                    try clear hcz22_1
                                    try clear hcz22_2
                                    try clear hcz22_3
                                    try clear hcz22_4
                                    try clear hcz24_0
                                    try clear hcz24_1
                                    try clear hcz24_2
                                    try clear hcz24_3
                                    try clear hcz24_4
                                    try clear hcz26_0
                                    try clear hcz26_1
                                    try clear hcz26_2
                                    try clear hcz26_3
                                    try clear hcz26_4
                                    try clear hcz27_0
                                    try clear hcz27_1
                                    try clear hcz27_2
                                    try clear hcz27_3
                                    try clear hcz27_4
                                    try clear hcz31_0
                                    try clear hcz31_1
                                    try clear hcz31_2
                                    try clear hcz31_3
                                    try clear hcz31_4
                                    try clear hcz32_0
                                    try clear hcz32_1
                                    try clear hcz32_2
                                    try clear hcz32_3
                                    try clear hcz32_4
                                    try clear hcz36_0
                                    try clear hcz36_1
                                    try clear hcz36_2
                                    try clear hcz36_3
                                    try clear hcz36_4
                                    try clear hcz38_0
                                    try clear hcz38_1
                                    try clear hcz38_2
                                    try clear hcz38_3
                                    try clear hcz38_4
                                    try clear hcz39_0
                                    try clear hcz39_1
                                    try clear hcz39_2
                                    try clear hcz39_3
                                    try clear hcz39_4
                                    try clear hfz12_0
                                    try clear hfz12_1
                                    try clear hfz12_2
                                    try clear hfz12_3
                                    try clear hfz12_4
                                    try clear hfz14_0
                                    try clear hfz14_1
                                    try clear hfz14_2
                                    try clear hfz14_3
                                    try clear hfz14_4
                                    try clear hfz16_0
                                    try clear hfz16_1
                                    try clear hfz16_2
                                    try clear hfz16_3
                                    try clear hfz16_4
                                    try clear hfz18_0
                                    try clear hfz18_1
                                    try clear hfz18_2
                                    try clear hfz18_3
                                    try clear hfz18_4
                                    try clear hfz20_0
                                    try clear hfz20_1
                                    try clear hfz20_2
                                    try clear hfz20_3
                                    try clear hfz20_4
                                    try clear hfz22_0
                                    try clear hfz22_1
                                    try clear hfz22_2
                                    try clear hfz22_3
                                    try clear hfz22_4
                                    try clear hfz24_0
                                    try clear hfz24_1
                                    try clear hfz24_2
                                    try clear hfz24_3
                                    try clear hfz24_4
                                    try clear hfz26_0
                                    try clear hfz26_1
                                    try clear hfz26_2
                                    try clear hfz26_3
                                    try clear hfz26_4
                                    try clear hfz27_0
                                    try clear hfz27_1
                                    try clear hfz27_2
                                    try clear hfz27_3
                                    try clear hfz27_4
                                    try clear hfz31_0
                                    try clear hfz31_1
                                    try clear hfz31_2
                                    try clear hfz31_3
                                    try clear hfz31_4
                                    try clear hfz32_0
                                    try clear hfz32_1
                                    try clear hfz32_2
                                    try clear hfz32_3
                                    try clear hfz32_4
                                    try clear hfz36_0
                                    try clear hfz36_1
                                    try clear hfz36_2
                                    try clear hfz36_3
                                    try clear hfz36_4
                                    try clear hfz38_0
                                    try clear hfz38_1
                                    try clear hfz38_2
                                    try clear hfz38_3
                                    try clear hfz38_4
                                    try clear hfz39_0
                                    try clear hfz39_1
                                    try clear hfz39_2
                                    try clear hfz39_3
                                    try clear hfz39_4
                                    try clear hx129_0
                                    try clear hx129_1
                                    try clear hx129_2
                                    try clear hx129_3
                                    try clear hx129_4
                                    try clear hx130_0
                                    try clear hx130_1
                                    try clear hx130_2
                                    try clear hx130_3
                                    try clear hx130_4
                                    try clear p1
                                    try clear p12
                                    try clear p129
                                    try clear p13
                                    try clear p130
                                    try clear p2
                                    try clear p6
                                    try clear q1
                                    try clear q12
                                    try clear q129
                                    try clear q13
                                    try clear q130
                                    obtain ⟨x6_6, rfl, HA, HK6, BK131, HB⟩ := hrel
                                    cases gk with
                                    | zero => exact absurd HA.out (by simp [spec_TableOk.l1])
                                    | succ k6 =>
                                      have H := HA.out
                                      clear HA
                                      simp only [spec_TableOk.l1] at H
                                      by_cases c41 : x6_6 < x3_2
                                      · rw [if_pos c41] at H
                                        have c41b0 : decide (x6_6 < x3_2) = true := decide_eq_true c41
                                        clear c41
                                        by_cases c42 : ((rd_T41 l0 x3_2).f1) ≥ 0
                                        · rw [if_pos c42] at H
                                          have c42b0 : decide (0 ≤ ((rd_T41 l0 x3_2).f1)) = true := decide_eq_true c42
                                          clear c42
                                          by_cases c43 : 0 ≤ x6_6
                                          · rw [if_pos c43] at H
                                            have c43b0 : decide (0 ≤ x6_6) = true := decide_eq_true c43
                                            clear c43
                                            by_cases c44 : x6_6 < (l0.length : Int)
                                            · rw [if_pos c44] at H
                                              have c44b0 : decide (x6_6 < (l0.length : Int)) = true := decide_eq_true c44
                                              clear c44
                                              by_cases c45 : ((rd_T41 l0 x6_6).f1) = ((rd_T41 l0 x3_2).f1)
                                              · rw [if_pos c45] at H
                                                have c45b0 : (((rd_T41 l0 x6_6).f1) == ((rd_T41 l0 x3_2).f1)) = true := beq_iff_eq.mpr c45
                                                have c45b1 : (((rd_T41 l0 x6_6).f1) != ((rd_T41 l0 x3_2).f1)) = false := bne_eq_false_iff_eq.mpr c45
                                                clear c45
                                                obtain rfl := Option.some.inj H
                                                have hcz46_0 : wr.cell? ⟨gb131, 0, none⟩ = some (.int .i64 ((rd_T41 l0 x3_2).f0)) := (blk_cell BK131.out 0).trans rfl
                                                have hcz46_1 : wr.cell? ⟨gb131, 1, none⟩ = some (.int .i64 ((rd_T41 l0 x3_2).f1)) := (blk_cell BK131.out 1).trans rfl
                                                have hcz46_2 : wr.cell? ⟨gb131, 2, none⟩ = some (.int .i64 ((rd_T41 l0 x3_2).f2)) := (blk_cell BK131.out 2).trans rfl
                                                have hcz46_3 : wr.cell? ⟨gb131, 3, none⟩ = some (.int .i64 ((rd_T41 l0 x3_2).f3)) := (blk_cell BK131.out 3).trans rfl
                                                have hcz46_4 : wr.cell? ⟨gb131, 4, none⟩ = some (.int .i64 ((rd_T41 l0 x3_2).f4)) := (blk_cell BK131.out 4).trans rfl
                                                have hfz46_0 := blk_frozen BK131.out 0
                                                have hfz46_1 := blk_frozen BK131.out 1
                                                have hfz46_2 := blk_frozen BK131.out 2
                                                have hfz46_3 := blk_frozen BK131.out 3
                                                have hfz46_4 := blk_frozen BK131.out 4
                                                have p133 : 0 ≤ (x6_6 : Int) := of_decide_eq_true (by first | (with_reducible assumption) | assumption)
                                                have q133 : x6_6 < (l0.length : Int) := of_decide_eq_true (by first | (with_reducible assumption) | assumption)
                                                obtain ⟨ad133, e133, hx133_0, hx133_1, hx133_2, hx133_3, hx133_4⟩ := at_T41 HR0.out x6_6 p133 q133
                                                obtain rfl : ad130 = ad133 := (by injection e133)
                                                replace hx133_0 := (HB.out.cell (World.block_lt_of_cell? w _ hx133_0)).trans hx133_0
                                                replace hx133_1 := (HB.out.cell (World.block_lt_of_cell? w _ hx133_1)).trans hx133_1
                                                replace hx133_2 := (HB.out.cell (World.block_lt_of_cell? w _ hx133_2)).trans hx133_2
                                                replace hx133_3 := (HB.out.cell (World.block_lt_of_cell? w _ hx133_3)).trans hx133_3
                                                replace hx133_4 := (HB.out.cell (World.block_lt_of_cell? w _ hx133_4)).trans hx133_4
                                                replace p133 := eq_true p133
                                                replace q133 := eq_true q133
                                                go_wp2
                                                repeat (go_quiet (fail); try go_wp2)
                                                go_ret
                                                exact ⟨by first | rfl | (simp [errW_none, errW_some] <;> rfl) | (simp [*, errW_none, errW_some] <;> rfl), by repeat (first | (with_reducible first | exact HB.out | apply below_alloc | apply pw_below_drewN | apply below_drew1 | refine below_set ?_ GE131.out) | exact HB.out)⟩
                                              · rw [if_neg c45] at H
                                                have c45b0 : (((rd_T41 l0 x6_6).f1) == ((rd_T41 l0 x3_2).f1)) = false := beq_eq_false_iff_ne.mpr c45
                                                have c45b1 : (((rd_T41 l0 x6_6).f1) != ((rd_T41 l0 x3_2).f1)) = true := bne_iff_ne.mpr c45
                                                have H' := Aside0.mk H
                                                clear H
                                                have hcz47_0 : wr.cell? ⟨gb131, 0, none⟩ = some (.int .i64 ((rd_T41 l0 x3_2).f0)) := (blk_cell BK131.out 0).trans rfl
                                                have hcz47_1 : wr.cell? ⟨gb131, 1, none⟩ = some (.int .i64 ((rd_T41 l0 x3_2).f1)) := (blk_cell BK131.out 1).trans rfl
                                                have hcz47_2 : wr.cell? ⟨gb131, 2, none⟩ = some (.int .i64 ((rd_T41 l0 x3_2).f2)) := (blk_cell BK131.out 2).trans rfl
                                                have hcz47_3 : wr.cell? ⟨gb131, 3, none⟩ = some (.int .i64 ((rd_T41 l0 x3_2).f3)) := (blk_cell BK131.out 3).trans rfl
                                                have hcz47_4 : wr.cell? ⟨gb131, 4, none⟩ = some (.int .i64 ((rd_T41 l0 x3_2).f4)) := (blk_cell BK131.out 4).trans rfl
                                                have hfz47_0 := blk_frozen BK131.out 0
                                                have hfz47_1 := blk_frozen BK131.out 1
                                                have hfz47_2 := blk_frozen BK131.out 2
                                                have hfz47_3 := blk_frozen BK131.out 3
                                                have hfz47_4 := blk_frozen BK131.out 4
                                                have p133 : 0 ≤ (x6_6 : Int) := of_decide_eq_true (by first | (with_reducible assumption) | assumption)
                                                have q133 : x6_6 < (l0.length : Int) := of_decide_eq_true (by first | (with_reducible assumption) | assumption)
                                                obtain ⟨ad133, e133, hx133_0, hx133_1, hx133_2, hx133_3, hx133_4⟩ := at_T41 HR0.out x6_6 p133 q133
                                                obtain rfl : ad130 = ad133 := (by injection e133)
                                                replace hx133_0 := (HB.out.cell (World.block_lt_of_cell? w _ hx133_0)).trans hx133_0
                                                replace hx133_1 := (HB.out.cell (World.block_lt_of_cell? w _ hx133_1)).trans hx133_1
                                                replace hx133_2 := (HB.out.cell (World.block_lt_of_cell? w _ hx133_2)).trans hx133_2
                                                replace hx133_3 := (HB.out.cell (World.block_lt_of_cell? w _ hx133_3)).trans hx133_3
                                                replace hx133_4 := (HB.out.cell (World.block_lt_of_cell? w _ hx133_4)).trans hx133_4
                                                replace p133 := eq_true p133
                                                replace q133 := eq_true q133
                                                go_wp2
                                                repeat (go_quiet (fail); try go_wp2)
                                                go_roundg k6
                                                case measure => have := HJ1.out; have := HK2.out; have := HJ9.out; have := HJ28.out; have := HJ33.out; have := HK6.out; omega
                                                case rel => exact ⟨(wrap64 (x6_6 + 1)), (by first | rfl | (simp; done) | (simp [*]; done)), H', ⟨by have := HJ1.out; have := HK2.out; have := HJ9.out; have := HJ28.out; have := HJ33.out; have := HK6.out; omega⟩, ⟨by (with_reducible repeat (first | refine blk_drewN ?_ _ | refine blk_drew ?_ | refine blk_alloc ?_ _)); exact BK131.out⟩, ⟨by repeat (first | (with_reducible first | exact HB.out | apply below_alloc | apply pw_below_drewN | apply below_drew1 | refine below_set ?_ GE131.out) | exact HB.out)⟩⟩
                                            · rw [if_neg c44] at H
                                              exact absurd H (by simp)
                                          · rw [if_neg c43] at H
                                            exact absurd H (by simp)
                                        · rw [if_neg c42] at H
                                          have c42b0 : decide (0 ≤ ((rd_T41 l0 x3_2).f1)) = false := decide_eq_false c42
                                          clear c42
                                          have H' := Aside0.mk H
                                          clear H
                                          have hcz48_0 : wr.cell? ⟨gb131, 0, none⟩ = some (.int .i64 ((rd_T41 l0 x3_2).f0)) := (blk_cell BK131.out 0).trans rfl
                                          have hcz48_1 : wr.cell? ⟨gb131, 1, none⟩ = some (.int .i64 ((rd_T41 l0 x3_2).f1)) := (blk_cell BK131.out 1).trans rfl
                                          have hcz48_2 : wr.cell? ⟨gb131, 2, none⟩ = some (.int .i64 ((rd_T41 l0 x3_2).f2)) := (blk_cell BK131.out 2).trans rfl
                                          have hcz48_3 : wr.cell? ⟨gb131, 3, none⟩ = some (.int .i64 ((rd_T41 l0 x3_2).f3)) := (blk_cell BK131.out 3).trans rfl
                                          have hcz48_4 : wr.cell? ⟨gb131, 4, none⟩ = some (.int .i64 ((rd_T41 l0 x3_2).f4)) := (blk_cell BK131.out 4).trans rfl
                                          have hfz48_0 := blk_frozen BK131.out 0
                                          have hfz48_1 := blk_frozen BK131.out 1
                                          have hfz48_2 := blk_frozen BK131.out 2
                                          have hfz48_3 := blk_frozen BK131.out 3
                                          have hfz48_4 := blk_frozen BK131.out 4
                                          go_wp2
                                          repeat (go_quiet (fail); try go_wp2)
                                          go_roundg k6
                                          case measure => have := HJ1.out; have := HK2.out; have := HJ9.out; have := HJ28.out; have := HJ33.out; have := HK6.out; omega
                                          case rel => exact ⟨(wrap64 (x6_6 + 1)), (by first | rfl | (simp; done) | (simp [*]; done)), H', ⟨by have := HJ1.out; have := HK2.out; have := HJ9.out; have := HJ28.out; have := HJ33.out; have := HK6.out; omega⟩, ⟨by (with_reducible repeat (first | refine blk_drewN ?_ _ | refine blk_drew ?_ | refine blk_alloc ?_ _)); exact BK131.out⟩, ⟨by repeat (first | (with_reducible first | exact HB.out | apply below_alloc | apply pw_below_drewN | apply below_drew1 | refine below_set ?_ GE131.out) | exact HB.out)⟩⟩
                                      · rw [if_neg c41] at H
                                        have c41b0 : decide (x6_6 < x3_2) = false := decide_eq_false c41
                                        clear c41
                                        have H' := Aside0.mk H
                                        clear H
                                        go_wp2
                                        repeat (go_quiet (fail); try go_wp2)
                                        go_roundg k6
                                        case measure => have := HJ1.out; have := HK2.out; have := HJ9.out; have := HJ28.out; have := HJ33.out; have := HK6.out; omega
                                        case rel => exact ⟨(wrap64 (x3_2 + 1)), (by first | rfl | (simp; done) | (simp [*]; done)), H', ⟨by have := HJ1.out; have := HK2.out; have := HJ9.out; have := HJ28.out; have := HJ33.out; have := HK6.out; omega⟩, ⟨by repeat (first | (with_reducible first | exact HB.out | apply below_alloc | apply pw_below_drewN | apply below_drew1 | refine below_set ?_ GE131.out) | exact HB.out)⟩⟩
              · rw [if_neg c8] at H
                exact absurd H (by simp)
            · rw [if_neg c7] at H
              have c7b0 : decide (x3_2 < (l0.length : Int)) = false := decide_eq_false c7
              clear c7
              obtain rfl := Option.some.inj H
              go_wp2
              repeat (go_quiet (fail); try go_wp2)
              go_ret
              exact ⟨by first | rfl | (simp [errW_none, errW_some] <;> rfl) | (simp [*, errW_none, errW_some] <;> rfl), by repeat (first | (with_reducible first | exact HB.out | apply below_alloc | apply pw_below_drewN | apply below_drew1) | exact HB.out)⟩

end Go.Proofs.Ytfonbakjfajbcaa.QFnExactTableRoom
