-- Written by a program of this session that drives the print of the kit, with contracts of its own beside the printed ones. Lean checks it.
import Derived.Test.YtaihpphekkiemaaQFnExactThingsInx2
import Derived.Test.YtaihpphekkiemaaQFnExactThingsInx4
import Derived.Test.YtaihpphekkiemaaQFnExactThingsInx0
import Derived.Test.YtaihpphekkiemaaQFnExactThingsInx1
import Derived.Test.YtaihpphekkiemaaQFnExactThingsInx3
import Derived.Test.YtaihpphekkiemaaQFnExactThingsInx5
import Derived.Test.YtaihpphekkiemaaQFnExactThingsInx6
namespace Go.Proofs.Ytaihpphekkiemaa.QFnExactThingsIn
open Go.RowKit Go.Proofs.YtaihpphekkiemaaW.PrintWords Go.Proofs.YtaihpphekkiemaaW.PrintLast Go.Proofs.YtaihpphekkiemaaW.PrintMore
attribute [local go_sem] max2_int min2_int max_two min_two max_three min_three max_four min_four   -- for this text's walks alone
set_option linter.unusedVariables false
set_option linter.unusedSimpArgs false

/-! ### laws_heldThingS: function 42 -/
def laws_heldThingS.l0 : Nat → List (S52) → Int → Int → Option (Int)
  | 0, _, _, _ => none
  | k + 1, x0, x1, x5 => if x5 < (x0.length : Int) then (if 0 ≤ x5 then (if ((rd_T52 x0 x5).f0) = x1 then (if ((rd_T52 x0 x5).f1) = (wrap64 (x1 + 1)) then (if ((rd_T52 x0 x5).f2.f0) = (wrap64 ((wrap64 (x1 + 1)) + 1)) then (if ((rd_T52 x0 x5).f2.f1) = (wrap64 ((wrap64 ((wrap64 (x1 + 1)) + 1)) + 1)) then ((laws_heldIntS.f k ((rd_T52 x0 x5).f3) (wrap64 ((wrap64 ((wrap64 ((wrap64 (x1 + 1)) + 1)) + 1)) + 1))).bind fun t224 => (if t224 < 0 then (some (-1)) else ((laws_heldIntS.f k ((rd_T52 x0 x5).f4) t224).bind fun t226 => (if t226 < 0 then (some (-1)) else (laws_heldThingS.l0 k x0 t226 (wrap64 (x5 + 1))))))) else (some (-1))) else (some (-1))) else (some (-1))) else (some (-1))) else (none)) else (some x1)
def laws_heldThingS.f (k : Nat) (l0 : List (S52)) (a1 : Int) : Option (Int) := laws_heldThingS.l0 k l0 a1 0
theorem laws_heldThingS.mono_l : ∀ k, (∀ y0 y1 y2, LeO (laws_heldThingS.l0 k y0 y1 y2) (laws_heldThingS.l0 (k + 1) y0 y1 y2))
  | 0 => fun _ _ _ r h => by simp [laws_heldThingS.l0] at h
  | k + 1 => by
    have ih0 := laws_heldThingS.mono_l k
    · intro y0 y1 y2
      unfold laws_heldThingS.l0
      repeat' first
      | (with_reducible exact ih0 _ _ _)
      | (with_reducible exact laws_heldIntS.mono _ _ _)
      | (with_reducible exact LeO.refl _)
      | (with_reducible exact LeO.none _)
      | (with_reducible refine LeO.ite ?_ ?_)
      | (with_reducible refine LeO.bind ?_ (fun _ => ?_))
      | exact ih0 _ _ _
      | exact laws_heldIntS.mono _ _ _
      | exact LeO.none _
      | refine LeO.ite ?_ ?_
      | refine LeO.bind ?_ (fun _ => ?_)
theorem laws_heldThingS.mono : ∀ a0 a1 k, LeO (laws_heldThingS.f k a0 a1) (laws_heldThingS.f (k + 1) a0 a1) := by
  intro a0 a1 k
  have ih0 := laws_heldThingS.mono_l k
  unfold laws_heldThingS.f
  repeat' first
      | (with_reducible exact ih0 _ _ _)
      | (with_reducible exact laws_heldIntS.mono _ _ _)
      | (with_reducible exact LeO.refl _)
      | (with_reducible exact LeO.none _)
      | (with_reducible refine LeO.ite ?_ ?_)
      | (with_reducible refine LeO.bind ?_ (fun _ => ?_))
      | exact ih0 _ _ _
      | exact laws_heldIntS.mono _ _ _
      | exact LeO.none _
      | refine LeO.ite ?_ ?_
      | refine LeO.bind ?_ (fun _ => ?_)
set_option maxHeartbeats 8000000 in
set_option maxRecDepth 100000 in
theorem laws_heldThingS.calls (k : Nat) (A0 : Option Addr) (c0 : Nat) (l0 : List (S52)) (a1 : Int) (r : Int) (w : World) (hr0 : Kd.C k52 w A0 l0.length l0) (hc0 : l0.length ≤ c0) (h : laws_heldThingS.f k l0 a1 = some r) :
    Calls Try.prog 42 #[.slice A0 l0.length c0, .int .i64 a1] w fun e w' => e = .returned (.int .i64 r) ∧ Drawn0 w w' := by
  have HR0 := Aside0.mk hr0
  have HC0 := Aside0.mk hc0
  clear hr0 hc0
  have H : (laws_heldThingS.l0 k l0 a1 0) = some r := h
  clear h
  have H' := Aside0.mk H
  clear H
  go_enter Try.func42, Try.ntmps42
  go_wp2
  go_loopg [1, 5] k (fun kq v1 v5 w' => ∃ (x1_1 : Int) (x5_1 : Int), v1 = .int .i64 x1_1 ∧ v5 = .int .i64 x5_1 ∧ Aside0 (laws_heldThingS.l0 kq l0 x1_1 x5_1 = some r) ∧ Aside0 (kq ≤ k) ∧ Drawn0 w w')
  case atStart => exact ⟨(a1), (0), (by first | rfl | (simp; done) | (simp [*]; done)), (by first | rfl | (simp; done) | (simp [*]; done)), H', ⟨Nat.le_refl _⟩, by repeat (first | exact Drawn0.refl _ | apply Drawn0.step)⟩
  case round =>
    clear H'
    try clear p2
    obtain ⟨x1_1, x5_1, rfl, rfl, HA, HK1, ⟨m1, rfl⟩⟩ := hrel
    cases gk with
    | zero => exact absurd HA.out (by simp [laws_heldThingS.l0])
    | succ k1 =>
      have H := HA.out
      clear HA
      simp only [laws_heldThingS.l0] at H
      by_cases c3 : x5_1 < (l0.length : Int)
      · rw [if_pos c3] at H
        have c3b0 : decide (x5_1 < (l0.length : Int)) = true := decide_eq_true c3
        clear c3
        by_cases c4 : 0 ≤ x5_1
        · rw [if_pos c4] at H
          have c4b0 : decide (0 ≤ x5_1) = true := decide_eq_true c4
          clear c4
          by_cases c5 : ((rd_T52 l0 x5_1).f0) = x1_1
          · rw [if_pos c5] at H
            have c5b0 : (((rd_T52 l0 x5_1).f0) == x1_1) = true := beq_iff_eq.mpr c5
            have c5b1 : (((rd_T52 l0 x5_1).f0) != x1_1) = false := bne_eq_false_iff_eq.mpr c5
            clear c5
            by_cases c6 : ((rd_T52 l0 x5_1).f1) = (wrap64 (x1_1 + 1))
            · rw [if_pos c6] at H
              have c6b0 : (((rd_T52 l0 x5_1).f1) == (wrap64 (x1_1 + 1))) = true := beq_iff_eq.mpr c6
              have c6b1 : (((rd_T52 l0 x5_1).f1) != (wrap64 (x1_1 + 1))) = false := bne_eq_false_iff_eq.mpr c6
              clear c6
              by_cases c7 : ((rd_T52 l0 x5_1).f2.f0) = (wrap64 ((wrap64 (x1_1 + 1)) + 1))
              · rw [if_pos c7] at H
                have c7b0 : (((rd_T52 l0 x5_1).f2.f0) == (wrap64 ((wrap64 (x1_1 + 1)) + 1))) = true := beq_iff_eq.mpr c7
                have c7b1 : (((rd_T52 l0 x5_1).f2.f0) != (wrap64 ((wrap64 (x1_1 + 1)) + 1))) = false := bne_eq_false_iff_eq.mpr c7
                clear c7
                by_cases c8 : ((rd_T52 l0 x5_1).f2.f1) = (wrap64 ((wrap64 ((wrap64 (x1_1 + 1)) + 1)) + 1))
                · rw [if_pos c8] at H
                  have c8b0 : (((rd_T52 l0 x5_1).f2.f1) == (wrap64 ((wrap64 ((wrap64 (x1_1 + 1)) + 1)) + 1))) = true := beq_iff_eq.mpr c8
                  have c8b1 : (((rd_T52 l0 x5_1).f2.f1) != (wrap64 ((wrap64 ((wrap64 (x1_1 + 1)) + 1)) + 1))) = false := bne_eq_false_iff_eq.mpr c8
                  clear c8
                  replace H := Option.bind_eq_some_iff.mp H
                  obtain ⟨t224, A90, H⟩ := H
                  replace H : (if t224 < 0 then (some (-1)) else ((laws_heldIntS.f k1 ((rd_T52 l0 x5_1).f4) t224).bind fun t226 => (if t226 < 0 then (some (-1)) else (laws_heldThingS.l0 k1 l0 t226 (wrap64 (x5_1 + 1)))))) = some r := H
                  have A9 := Aside0.mk A90
                  clear A90
                  by_cases c10 : t224 < 0
                  · rw [if_pos c10] at H
                    have c10b0 : decide (t224 < 0) = true := decide_eq_true c10
                    clear c10
                    obtain rfl := Option.some.inj H
                    have p219 : 0 ≤ (x5_1 : Int) := of_decide_eq_true (by first | (with_reducible assumption) | assumption)
                    have q219 : x5_1 < (l0.length : Int) := of_decide_eq_true (by first | (with_reducible assumption) | assumption)
                    obtain ⟨ad219, A219_4, c219_4, A219_5, c219_5, e219, hx219_0, hx219_1, hx219_2, hx219_3, hx219_4, hx219_5, hl219_4, hi219_4, hl219_5, hi219_5⟩ := at_T52 HR0.out x5_1 p219 q219
                    cases e219
                    have HR219_4 := Aside0.mk hi219_4
                    have HC219_4 := Aside0.mk hl219_4
                    clear hi219_4 hl219_4
                    have HR219_5 := Aside0.mk hi219_5
                    have HC219_5 := Aside0.mk hl219_5
                    clear hi219_5 hl219_5
                    replace p219 := eq_true p219
                    replace q219 := eq_true q219
                    have p220 : 0 ≤ (x5_1 : Int) := of_decide_eq_true (by first | (with_reducible assumption) | assumption)
                    have q220 : x5_1 < (l0.length : Int) := of_decide_eq_true (by first | (with_reducible assumption) | assumption)
                    obtain ⟨ad220, A220_4, c220_4, A220_5, c220_5, e220, hx220_0, hx220_1, hx220_2, hx220_3, hx220_4, hx220_5, hl220_4, hi220_4, hl220_5, hi220_5⟩ := at_T52 HR0.out x5_1 p220 q220
                    obtain rfl : ad219 = ad220 := (by injection e220)
                    have HR220_4 := Aside0.mk hi220_4
                    have HC220_4 := Aside0.mk hl220_4
                    clear hi220_4 hl220_4
                    have HR220_5 := Aside0.mk hi220_5
                    have HC220_5 := Aside0.mk hl220_5
                    clear hi220_5 hl220_5
                    replace p220 := eq_true p220
                    replace q220 := eq_true q220
                    have ea_ := Option.some.inj (hx219_4.symm.trans hx220_4)
                    injection ea_ with ea_ en_ ec_
                    subst ea_
                    subst ec_
                    clear en_
                    have ea_ := Option.some.inj (hx219_5.symm.trans hx220_5)
                    injection ea_ with ea_ en_ ec_
                    subst ea_
                    subst ec_
                    clear en_
                    have p221 : 0 ≤ (x5_1 : Int) := of_decide_eq_true (by first | (with_reducible assumption) | assumption)
                    have q221 : x5_1 < (l0.length : Int) := of_decide_eq_true (by first | (with_reducible assumption) | assumption)
                    obtain ⟨ad221, A221_4, c221_4, A221_5, c221_5, e221, hx221_0, hx221_1, hx221_2, hx221_3, hx221_4, hx221_5, hl221_4, hi221_4, hl221_5, hi221_5⟩ := at_T52 HR0.out x5_1 p221 q221
                    obtain rfl : ad219 = ad221 := (by injection e221)
                    have HR221_4 := Aside0.mk hi221_4
                    have HC221_4 := Aside0.mk hl221_4
                    clear hi221_4 hl221_4
                    have HR221_5 := Aside0.mk hi221_5
                    have HC221_5 := Aside0.mk hl221_5
                    clear hi221_5 hl221_5
                    replace p221 := eq_true p221
                    replace q221 := eq_true q221
                    have ea_ := Option.some.inj (hx219_4.symm.trans hx221_4)
                    injection ea_ with ea_ en_ ec_
                    subst ea_
                    subst ec_
                    clear en_
                    have ea_ := Option.some.inj (hx219_5.symm.trans hx221_5)
                    injection ea_ with ea_ en_ ec_
                    subst ea_
                    subst ec_
                    clear en_
                    have p222 : 0 ≤ (x5_1 : Int) := of_decide_eq_true (by first | (with_reducible assumption) | assumption)
                    have q222 : x5_1 < (l0.length : Int) := of_decide_eq_true (by first | (with_reducible assumption) | assumption)
                    obtain ⟨ad222, A222_4, c222_4, A222_5, c222_5, e222, hx222_0, hx222_1, hx222_2, hx222_3, hx222_4, hx222_5, hl222_4, hi222_4, hl222_5, hi222_5⟩ := at_T52 HR0.out x5_1 p222 q222
                    obtain rfl : ad219 = ad222 := (by injection e222)
                    have HR222_4 := Aside0.mk hi222_4
                    have HC222_4 := Aside0.mk hl222_4
                    clear hi222_4 hl222_4
                    have HR222_5 := Aside0.mk hi222_5
                    have HC222_5 := Aside0.mk hl222_5
                    clear hi222_5 hl222_5
                    replace p222 := eq_true p222
                    replace q222 := eq_true q222
                    have ea_ := Option.some.inj (hx219_4.symm.trans hx222_4)
                    injection ea_ with ea_ en_ ec_
                    subst ea_
                    subst ec_
                    clear en_
                    have ea_ := Option.some.inj (hx219_5.symm.trans hx222_5)
                    injection ea_ with ea_ en_ ec_
                    subst ea_
                    subst ec_
                    clear en_
                    have p223 : 0 ≤ (x5_1 : Int) := of_decide_eq_true (by first | (with_reducible assumption) | assumption)
                    have q223 : x5_1 < (l0.length : Int) := of_decide_eq_true (by first | (with_reducible assumption) | assumption)
                    obtain ⟨ad223, A223_4, c223_4, A223_5, c223_5, e223, hx223_0, hx223_1, hx223_2, hx223_3, hx223_4, hx223_5, hl223_4, hi223_4, hl223_5, hi223_5⟩ := at_T52 HR0.out x5_1 p223 q223
                    obtain rfl : ad219 = ad223 := (by injection e223)
                    have HR223_4 := Aside0.mk hi223_4
                    have HC223_4 := Aside0.mk hl223_4
                    clear hi223_4 hl223_4
                    have HR223_5 := Aside0.mk hi223_5
                    have HC223_5 := Aside0.mk hl223_5
                    clear hi223_5 hl223_5
                    replace p223 := eq_true p223
                    replace q223 := eq_true q223
                    have ea_ := Option.some.inj (hx219_4.symm.trans hx223_4)
                    injection ea_ with ea_ en_ ec_
                    subst ea_
                    subst ec_
                    clear en_
                    have ea_ := Option.some.inj (hx219_5.symm.trans hx223_5)
                    injection ea_ with ea_ en_ ec_
                    subst ea_
                    subst ec_
                    clear en_
                    go_wp2_with (first | ((with_reducible refine gate_callee (f := 16) rfl ?_); refine goesL_ (some 56) rfl rfl Try.func16 (by kernel_rfl) rfl #[.slice A219_4 ((rd_T52 l0 x5_1).f3).length c219_4, .int .i64 (wrap64 ((wrap64 ((wrap64 ((wrap64 (x1_1 + 1)) + 1)) + 1)) + 1))] rfl (by (try simp only [List.map_toArray, List.map_cons, List.map_nil]); first | done | rfl | (simp only [List.length_drop, List.length_take]; rfl)) ?_; (with_reducible refine (laws_heldIntS.calls k1 _ _ ((rd_T52 l0 x5_1).f3) (wrap64 ((wrap64 ((wrap64 ((wrap64 (x1_1 + 1)) + 1)) + 1)) + 1)) t224 _ ?side1 ?side2 A9.out).mono ?_); (case side1 => repeat (first | exact HR223_4.out | (with_reducible refine Kd.C_alloc ?_ _) | (with_reducible refine Kd.C_drewN ?_ _) | (with_reducible refine Kd.C_drew ?_))); (case side2 => exact HC223_4.out); rintro e w' ⟨rfl, ⟨nd, rfl⟩⟩; refine ⟨_, rfl, ?_⟩))
                    go_ret
                    exact ⟨by first | rfl | (simp; done) | (simp [*]; done), by repeat (first | exact Drawn0.refl _ | apply Drawn0.step)⟩
                  · rw [if_neg c10] at H
                    have c10b0 : decide (t224 < 0) = false := decide_eq_false c10
                    clear c10
                    replace H := Option.bind_eq_some_iff.mp H
                    obtain ⟨t226, A110, H⟩ := H
                    replace H : (if t226 < 0 then (some (-1)) else (laws_heldThingS.l0 k1 l0 t226 (wrap64 (x5_1 + 1)))) = some r := H
                    have A11 := Aside0.mk A110
                    clear A110
                    by_cases c12 : t226 < 0
                    · rw [if_pos c12] at H
                      have c12b0 : decide (t226 < 0) = true := decide_eq_true c12
                      clear c12
                      obtain rfl := Option.some.inj H
                      have p219 : 0 ≤ (x5_1 : Int) := of_decide_eq_true (by first | (with_reducible assumption) | assumption)
                      have q219 : x5_1 < (l0.length : Int) := of_decide_eq_true (by first | (with_reducible assumption) | assumption)
                      obtain ⟨ad219, A219_4, c219_4, A219_5, c219_5, e219, hx219_0, hx219_1, hx219_2, hx219_3, hx219_4, hx219_5, hl219_4, hi219_4, hl219_5, hi219_5⟩ := at_T52 HR0.out x5_1 p219 q219
                      cases e219
                      have HR219_4 := Aside0.mk hi219_4
                      have HC219_4 := Aside0.mk hl219_4
                      clear hi219_4 hl219_4
                      have HR219_5 := Aside0.mk hi219_5
                      have HC219_5 := Aside0.mk hl219_5
                      clear hi219_5 hl219_5
                      replace p219 := eq_true p219
                      replace q219 := eq_true q219
                      have p220 : 0 ≤ (x5_1 : Int) := of_decide_eq_true (by first | (with_reducible assumption) | assumption)
                      have q220 : x5_1 < (l0.length : Int) := of_decide_eq_true (by first | (with_reducible assumption) | assumption)
                      obtain ⟨ad220, A220_4, c220_4, A220_5, c220_5, e220, hx220_0, hx220_1, hx220_2, hx220_3, hx220_4, hx220_5, hl220_4, hi220_4, hl220_5, hi220_5⟩ := at_T52 HR0.out x5_1 p220 q220
                      obtain rfl : ad219 = ad220 := (by injection e220)
                      have HR220_4 := Aside0.mk hi220_4
                      have HC220_4 := Aside0.mk hl220_4
                      clear hi220_4 hl220_4
                      have HR220_5 := Aside0.mk hi220_5
                      have HC220_5 := Aside0.mk hl220_5
                      clear hi220_5 hl220_5
                      replace p220 := eq_true p220
                      replace q220 := eq_true q220
                      have ea_ := Option.some.inj (hx219_4.symm.trans hx220_4)
                      injection ea_ with ea_ en_ ec_
                      subst ea_
                      subst ec_
                      clear en_
                      have ea_ := Option.some.inj (hx219_5.symm.trans hx220_5)
                      injection ea_ with ea_ en_ ec_
                      subst ea_
                      subst ec_
                      clear en_
                      have p221 : 0 ≤ (x5_1 : Int) := of_decide_eq_true (by first | (with_reducible assumption) | assumption)
                      have q221 : x5_1 < (l0.length : Int) := of_decide_eq_true (by first | (with_reducible assumption) | assumption)
                      obtain ⟨ad221, A221_4, c221_4, A221_5, c221_5, e221, hx221_0, hx221_1, hx221_2, hx221_3, hx221_4, hx221_5, hl221_4, hi221_4, hl221_5, hi221_5⟩ := at_T52 HR0.out x5_1 p221 q221
                      obtain rfl : ad219 = ad221 := (by injection e221)
                      have HR221_4 := Aside0.mk hi221_4
                      have HC221_4 := Aside0.mk hl221_4
                      clear hi221_4 hl221_4
                      have HR221_5 := Aside0.mk hi221_5
                      have HC221_5 := Aside0.mk hl221_5
                      clear hi221_5 hl221_5
                      replace p221 := eq_true p221
                      replace q221 := eq_true q221
                      have ea_ := Option.some.inj (hx219_4.symm.trans hx221_4)
                      injection ea_ with ea_ en_ ec_
                      subst ea_
                      subst ec_
                      clear en_
                      have ea_ := Option.some.inj (hx219_5.symm.trans hx221_5)
                      injection ea_ with ea_ en_ ec_
                      subst ea_
                      subst ec_
                      clear en_
                      have p222 : 0 ≤ (x5_1 : Int) := of_decide_eq_true (by first | (with_reducible assumption) | assumption)
                      have q222 : x5_1 < (l0.length : Int) := of_decide_eq_true (by first | (with_reducible assumption) | assumption)
                      obtain ⟨ad222, A222_4, c222_4, A222_5, c222_5, e222, hx222_0, hx222_1, hx222_2, hx222_3, hx222_4, hx222_5, hl222_4, hi222_4, hl222_5, hi222_5⟩ := at_T52 HR0.out x5_1 p222 q222
                      obtain rfl : ad219 = ad222 := (by injection e222)
                      have HR222_4 := Aside0.mk hi222_4
                      have HC222_4 := Aside0.mk hl222_4
                      clear hi222_4 hl222_4
                      have HR222_5 := Aside0.mk hi222_5
                      have HC222_5 := Aside0.mk hl222_5
                      clear hi222_5 hl222_5
                      replace p222 := eq_true p222
                      replace q222 := eq_true q222
                      have ea_ := Option.some.inj (hx219_4.symm.trans hx222_4)
                      injection ea_ with ea_ en_ ec_
                      subst ea_
                      subst ec_
                      clear en_
                      have ea_ := Option.some.inj (hx219_5.symm.trans hx222_5)
                      injection ea_ with ea_ en_ ec_
                      subst ea_
                      subst ec_
                      clear en_
                      have p223 : 0 ≤ (x5_1 : Int) := of_decide_eq_true (by first | (with_reducible assumption) | assumption)
                      have q223 : x5_1 < (l0.length : Int) := of_decide_eq_true (by first | (with_reducible assumption) | assumption)
                      obtain ⟨ad223, A223_4, c223_4, A223_5, c223_5, e223, hx223_0, hx223_1, hx223_2, hx223_3, hx223_4, hx223_5, hl223_4, hi223_4, hl223_5, hi223_5⟩ := at_T52 HR0.out x5_1 p223 q223
                      obtain rfl : ad219 = ad223 := (by injection e223)
                      have HR223_4 := Aside0.mk hi223_4
                      have HC223_4 := Aside0.mk hl223_4
                      clear hi223_4 hl223_4
                      have HR223_5 := Aside0.mk hi223_5
                      have HC223_5 := Aside0.mk hl223_5
                      clear hi223_5 hl223_5
                      replace p223 := eq_true p223
                      replace q223 := eq_true q223
                      have ea_ := Option.some.inj (hx219_4.symm.trans hx223_4)
                      injection ea_ with ea_ en_ ec_
                      subst ea_
                      subst ec_
                      clear en_
                      have ea_ := Option.some.inj (hx219_5.symm.trans hx223_5)
                      injection ea_ with ea_ en_ ec_
                      subst ea_
                      subst ec_
                      clear en_
                      go_wp2_with (first | ((with_reducible refine gate_callee (f := 16) rfl ?_); refine goesL_ (some 56) rfl rfl Try.func16 (by kernel_rfl) rfl #[.slice A219_4 ((rd_T52 l0 x5_1).f3).length c219_4, .int .i64 (wrap64 ((wrap64 ((wrap64 ((wrap64 (x1_1 + 1)) + 1)) + 1)) + 1))] rfl (by (try simp only [List.map_toArray, List.map_cons, List.map_nil]); first | done | rfl | (simp only [List.length_drop, List.length_take]; rfl)) ?_; (with_reducible refine (laws_heldIntS.calls k1 _ _ ((rd_T52 l0 x5_1).f3) (wrap64 ((wrap64 ((wrap64 ((wrap64 (x1_1 + 1)) + 1)) + 1)) + 1)) t224 _ ?side1 ?side2 A9.out).mono ?_); (case side1 => repeat (first | exact HR223_4.out | (with_reducible refine Kd.C_alloc ?_ _) | (with_reducible refine Kd.C_drewN ?_ _) | (with_reducible refine Kd.C_drew ?_))); (case side2 => exact HC223_4.out); rintro e w' ⟨rfl, ⟨nd, rfl⟩⟩; refine ⟨_, rfl, ?_⟩; have p225 : 0 ≤ (x5_1 : Int) := of_decide_eq_true (by first | (with_reducible assumption) | assumption); have q225 : x5_1 < (l0.length : Int) := of_decide_eq_true (by first | (with_reducible assumption) | assumption); obtain ⟨ad225, A225_4, c225_4, A225_5, c225_5, e225, hx225_0, hx225_1, hx225_2, hx225_3, hx225_4, hx225_5, hl225_4, hi225_4, hl225_5, hi225_5⟩ := at_T52 HR0.out x5_1 p225 q225; obtain rfl : ad219 = ad225 := (by injection e225); have HR225_4 := Aside0.mk hi225_4; have HC225_4 := Aside0.mk hl225_4; clear hi225_4 hl225_4; have HR225_5 := Aside0.mk hi225_5; have HC225_5 := Aside0.mk hl225_5; clear hi225_5 hl225_5; replace p225 := eq_true p225; replace q225 := eq_true q225; have ea_ := Option.some.inj (hx219_4.symm.trans hx225_4); injection ea_ with ea_ en_ ec_; subst ea_; subst ec_; clear en_; have ea_ := Option.some.inj (hx219_5.symm.trans hx225_5); injection ea_ with ea_ en_ ec_; subst ea_; subst ec_; clear en_) | ((with_reducible refine gate_callee (f := 16) rfl ?_); refine goesL_ (some 65) rfl rfl Try.func16 (by kernel_rfl) rfl #[.slice A219_5 ((rd_T52 l0 x5_1).f4).length c219_5, .int .i64 t224] rfl (by (try simp only [List.map_toArray, List.map_cons, List.map_nil]); first | done | rfl | (simp only [List.length_drop, List.length_take]; rfl)) ?_; (with_reducible refine (laws_heldIntS.calls k1 _ _ ((rd_T52 l0 x5_1).f4) t224 t226 _ ?side1 ?side2 A11.out).mono ?_); (case side1 => repeat (first | exact HR225_5.out | (with_reducible refine Kd.C_alloc ?_ _) | (with_reducible refine Kd.C_drewN ?_ _) | (with_reducible refine Kd.C_drew ?_))); (case side2 => exact HC225_5.out); rintro e w' ⟨rfl, ⟨nd, rfl⟩⟩; refine ⟨_, rfl, ?_⟩))
                      go_ret
                      exact ⟨by first | rfl | (simp; done) | (simp [*]; done), by repeat (first | exact Drawn0.refl _ | apply Drawn0.step)⟩
                    · rw [if_neg c12] at H
                      have c12b0 : decide (t226 < 0) = false := decide_eq_false c12
                      clear c12
                      have H' := Aside0.mk H
                      clear H
                      have p219 : 0 ≤ (x5_1 : Int) := of_decide_eq_true (by first | (with_reducible assumption) | assumption)
                      have q219 : x5_1 < (l0.length : Int) := of_decide_eq_true (by first | (with_reducible assumption) | assumption)
                      obtain ⟨ad219, A219_4, c219_4, A219_5, c219_5, e219, hx219_0, hx219_1, hx219_2, hx219_3, hx219_4, hx219_5, hl219_4, hi219_4, hl219_5, hi219_5⟩ := at_T52 HR0.out x5_1 p219 q219
                      cases e219
                      have HR219_4 := Aside0.mk hi219_4
                      have HC219_4 := Aside0.mk hl219_4
                      clear hi219_4 hl219_4
                      have HR219_5 := Aside0.mk hi219_5
                      have HC219_5 := Aside0.mk hl219_5
                      clear hi219_5 hl219_5
                      replace p219 := eq_true p219
                      replace q219 := eq_true q219
                      have p220 : 0 ≤ (x5_1 : Int) := of_decide_eq_true (by first | (with_reducible assumption) | assumption)
                      have q220 : x5_1 < (l0.length : Int) := of_decide_eq_true (by first | (with_reducible assumption) | assumption)
                      obtain ⟨ad220, A220_4, c220_4, A220_5, c220_5, e220, hx220_0, hx220_1, hx220_2, hx220_3, hx220_4, hx220_5, hl220_4, hi220_4, hl220_5, hi220_5⟩ := at_T52 HR0.out x5_1 p220 q220
                      obtain rfl : ad219 = ad220 := (by injection e220)
                      have HR220_4 := Aside0.mk hi220_4
                      have HC220_4 := Aside0.mk hl220_4
                      clear hi220_4 hl220_4
                      have HR220_5 := Aside0.mk hi220_5
                      have HC220_5 := Aside0.mk hl220_5
                      clear hi220_5 hl220_5
                      replace p220 := eq_true p220
                      replace q220 := eq_true q220
                      have ea_ := Option.some.inj (hx219_4.symm.trans hx220_4)
                      injection ea_ with ea_ en_ ec_
                      subst ea_
                      subst ec_
                      clear en_
                      have ea_ := Option.some.inj (hx219_5.symm.trans hx220_5)
                      injection ea_ with ea_ en_ ec_
                      subst ea_
                      subst ec_
                      clear en_
                      have p221 : 0 ≤ (x5_1 : Int) := of_decide_eq_true (by first | (with_reducible assumption) | assumption)
                      have q221 : x5_1 < (l0.length : Int) := of_decide_eq_true (by first | (with_reducible assumption) | assumption)
                      obtain ⟨ad221, A221_4, c221_4, A221_5, c221_5, e221, hx221_0, hx221_1, hx221_2, hx221_3, hx221_4, hx221_5, hl221_4, hi221_4, hl221_5, hi221_5⟩ := at_T52 HR0.out x5_1 p221 q221
                      obtain rfl : ad219 = ad221 := (by injection e221)
                      have HR221_4 := Aside0.mk hi221_4
                      have HC221_4 := Aside0.mk hl221_4
                      clear hi221_4 hl221_4
                      have HR221_5 := Aside0.mk hi221_5
                      have HC221_5 := Aside0.mk hl221_5
                      clear hi221_5 hl221_5
                      replace p221 := eq_true p221
                      replace q221 := eq_true q221
                      have ea_ := Option.some.inj (hx219_4.symm.trans hx221_4)
                      injection ea_ with ea_ en_ ec_
                      subst ea_
                      subst ec_
                      clear en_
                      have ea_ := Option.some.inj (hx219_5.symm.trans hx221_5)
                      injection ea_ with ea_ en_ ec_
                      subst ea_
                      subst ec_
                      clear en_
                      have p222 : 0 ≤ (x5_1 : Int) := of_decide_eq_true (by first | (with_reducible assumption) | assumption)
                      have q222 : x5_1 < (l0.length : Int) := of_decide_eq_true (by first | (with_reducible assumption) | assumption)
                      obtain ⟨ad222, A222_4, c222_4, A222_5, c222_5, e222, hx222_0, hx222_1, hx222_2, hx222_3, hx222_4, hx222_5, hl222_4, hi222_4, hl222_5, hi222_5⟩ := at_T52 HR0.out x5_1 p222 q222
                      obtain rfl : ad219 = ad222 := (by injection e222)
                      have HR222_4 := Aside0.mk hi222_4
                      have HC222_4 := Aside0.mk hl222_4
                      clear hi222_4 hl222_4
                      have HR222_5 := Aside0.mk hi222_5
                      have HC222_5 := Aside0.mk hl222_5
                      clear hi222_5 hl222_5
                      replace p222 := eq_true p222
                      replace q222 := eq_true q222
                      have ea_ := Option.some.inj (hx219_4.symm.trans hx222_4)
                      injection ea_ with ea_ en_ ec_
                      subst ea_
                      subst ec_
                      clear en_
                      have ea_ := Option.some.inj (hx219_5.symm.trans hx222_5)
                      injection ea_ with ea_ en_ ec_
                      subst ea_
                      subst ec_
                      clear en_
                      have p223 : 0 ≤ (x5_1 : Int) := of_decide_eq_true (by first | (with_reducible assumption) | assumption)
                      have q223 : x5_1 < (l0.length : Int) := of_decide_eq_true (by first | (with_reducible assumption) | assumption)
                      obtain ⟨ad223, A223_4, c223_4, A223_5, c223_5, e223, hx223_0, hx223_1, hx223_2, hx223_3, hx223_4, hx223_5, hl223_4, hi223_4, hl223_5, hi223_5⟩ := at_T52 HR0.out x5_1 p223 q223
                      obtain rfl : ad219 = ad223 := (by injection e223)
                      have HR223_4 := Aside0.mk hi223_4
                      have HC223_4 := Aside0.mk hl223_4
                      clear hi223_4 hl223_4
                      have HR223_5 := Aside0.mk hi223_5
                      have HC223_5 := Aside0.mk hl223_5
                      clear hi223_5 hl223_5
                      replace p223 := eq_true p223
                      replace q223 := eq_true q223
                      have ea_ := Option.some.inj (hx219_4.symm.trans hx223_4)
                      injection ea_ with ea_ en_ ec_
                      subst ea_
                      subst ec_
                      clear en_
                      have ea_ := Option.some.inj (hx219_5.symm.trans hx223_5)
                      injection ea_ with ea_ en_ ec_
                      subst ea_
                      subst ec_
                      clear en_
                      go_wp2_with (first | ((with_reducible refine gate_callee (f := 16) rfl ?_); refine goesL_ (some 56) rfl rfl Try.func16 (by kernel_rfl) rfl #[.slice A219_4 ((rd_T52 l0 x5_1).f3).length c219_4, .int .i64 (wrap64 ((wrap64 ((wrap64 ((wrap64 (x1_1 + 1)) + 1)) + 1)) + 1))] rfl (by (try simp only [List.map_toArray, List.map_cons, List.map_nil]); first | done | rfl | (simp only [List.length_drop, List.length_take]; rfl)) ?_; (with_reducible refine (laws_heldIntS.calls k1 _ _ ((rd_T52 l0 x5_1).f3) (wrap64 ((wrap64 ((wrap64 ((wrap64 (x1_1 + 1)) + 1)) + 1)) + 1)) t224 _ ?side1 ?side2 A9.out).mono ?_); (case side1 => repeat (first | exact HR223_4.out | (with_reducible refine Kd.C_alloc ?_ _) | (with_reducible refine Kd.C_drewN ?_ _) | (with_reducible refine Kd.C_drew ?_))); (case side2 => exact HC223_4.out); rintro e w' ⟨rfl, ⟨nd, rfl⟩⟩; refine ⟨_, rfl, ?_⟩; have p225 : 0 ≤ (x5_1 : Int) := of_decide_eq_true (by first | (with_reducible assumption) | assumption); have q225 : x5_1 < (l0.length : Int) := of_decide_eq_true (by first | (with_reducible assumption) | assumption); obtain ⟨ad225, A225_4, c225_4, A225_5, c225_5, e225, hx225_0, hx225_1, hx225_2, hx225_3, hx225_4, hx225_5, hl225_4, hi225_4, hl225_5, hi225_5⟩ := at_T52 HR0.out x5_1 p225 q225; obtain rfl : ad219 = ad225 := (by injection e225); have HR225_4 := Aside0.mk hi225_4; have HC225_4 := Aside0.mk hl225_4; clear hi225_4 hl225_4; have HR225_5 := Aside0.mk hi225_5; have HC225_5 := Aside0.mk hl225_5; clear hi225_5 hl225_5; replace p225 := eq_true p225; replace q225 := eq_true q225; have ea_ := Option.some.inj (hx219_4.symm.trans hx225_4); injection ea_ with ea_ en_ ec_; subst ea_; subst ec_; clear en_; have ea_ := Option.some.inj (hx219_5.symm.trans hx225_5); injection ea_ with ea_ en_ ec_; subst ea_; subst ec_; clear en_) | ((with_reducible refine gate_callee (f := 16) rfl ?_); refine goesL_ (some 65) rfl rfl Try.func16 (by kernel_rfl) rfl #[.slice A219_5 ((rd_T52 l0 x5_1).f4).length c219_5, .int .i64 t224] rfl (by (try simp only [List.map_toArray, List.map_cons, List.map_nil]); first | done | rfl | (simp only [List.length_drop, List.length_take]; rfl)) ?_; (with_reducible refine (laws_heldIntS.calls k1 _ _ ((rd_T52 l0 x5_1).f4) t224 t226 _ ?side1 ?side2 A11.out).mono ?_); (case side1 => repeat (first | exact HR225_5.out | (with_reducible refine Kd.C_alloc ?_ _) | (with_reducible refine Kd.C_drewN ?_ _) | (with_reducible refine Kd.C_drew ?_))); (case side2 => exact HC225_5.out); rintro e w' ⟨rfl, ⟨nd, rfl⟩⟩; refine ⟨_, rfl, ?_⟩))
                      go_roundg k1
                      case measure => have := HK1.out; omega
                      case rel => exact ⟨(t226), (wrap64 (x5_1 + 1)), (by first | rfl | (simp; done) | (simp [*]; done)), (by first | rfl | (simp; done) | (simp [*]; done)), H', ⟨by have := HK1.out; omega⟩, by repeat (first | exact Drawn0.refl _ | apply Drawn0.step)⟩
                · rw [if_neg c8] at H
                  have c8b0 : (((rd_T52 l0 x5_1).f2.f1) == (wrap64 ((wrap64 ((wrap64 (x1_1 + 1)) + 1)) + 1))) = false := beq_eq_false_iff_ne.mpr c8
                  have c8b1 : (((rd_T52 l0 x5_1).f2.f1) != (wrap64 ((wrap64 ((wrap64 (x1_1 + 1)) + 1)) + 1))) = true := bne_iff_ne.mpr c8
                  obtain rfl := Option.some.inj H
                  have p219 : 0 ≤ (x5_1 : Int) := of_decide_eq_true (by first | (with_reducible assumption) | assumption)
                  have q219 : x5_1 < (l0.length : Int) := of_decide_eq_true (by first | (with_reducible assumption) | assumption)
                  obtain ⟨ad219, A219_4, c219_4, A219_5, c219_5, e219, hx219_0, hx219_1, hx219_2, hx219_3, hx219_4, hx219_5, hl219_4, hi219_4, hl219_5, hi219_5⟩ := at_T52 HR0.out x5_1 p219 q219
                  cases e219
                  have HR219_4 := Aside0.mk hi219_4
                  have HC219_4 := Aside0.mk hl219_4
                  clear hi219_4 hl219_4
                  have HR219_5 := Aside0.mk hi219_5
                  have HC219_5 := Aside0.mk hl219_5
                  clear hi219_5 hl219_5
                  replace p219 := eq_true p219
                  replace q219 := eq_true q219
                  have p220 : 0 ≤ (x5_1 : Int) := of_decide_eq_true (by first | (with_reducible assumption) | assumption)
                  have q220 : x5_1 < (l0.length : Int) := of_decide_eq_true (by first | (with_reducible assumption) | assumption)
                  obtain ⟨ad220, A220_4, c220_4, A220_5, c220_5, e220, hx220_0, hx220_1, hx220_2, hx220_3, hx220_4, hx220_5, hl220_4, hi220_4, hl220_5, hi220_5⟩ := at_T52 HR0.out x5_1 p220 q220
                  obtain rfl : ad219 = ad220 := (by injection e220)
                  have HR220_4 := Aside0.mk hi220_4
                  have HC220_4 := Aside0.mk hl220_4
                  clear hi220_4 hl220_4
                  have HR220_5 := Aside0.mk hi220_5
                  have HC220_5 := Aside0.mk hl220_5
                  clear hi220_5 hl220_5
                  replace p220 := eq_true p220
                  replace q220 := eq_true q220
                  have ea_ := Option.some.inj (hx219_4.symm.trans hx220_4)
                  injection ea_ with ea_ en_ ec_
                  subst ea_
                  subst ec_
                  clear en_
                  have ea_ := Option.some.inj (hx219_5.symm.trans hx220_5)
                  injection ea_ with ea_ en_ ec_
                  subst ea_
                  subst ec_
                  clear en_
                  have p221 : 0 ≤ (x5_1 : Int) := of_decide_eq_true (by first | (with_reducible assumption) | assumption)
                  have q221 : x5_1 < (l0.length : Int) := of_decide_eq_true (by first | (with_reducible assumption) | assumption)
                  obtain ⟨ad221, A221_4, c221_4, A221_5, c221_5, e221, hx221_0, hx221_1, hx221_2, hx221_3, hx221_4, hx221_5, hl221_4, hi221_4, hl221_5, hi221_5⟩ := at_T52 HR0.out x5_1 p221 q221
                  obtain rfl : ad219 = ad221 := (by injection e221)
                  have HR221_4 := Aside0.mk hi221_4
                  have HC221_4 := Aside0.mk hl221_4
                  clear hi221_4 hl221_4
                  have HR221_5 := Aside0.mk hi221_5
                  have HC221_5 := Aside0.mk hl221_5
                  clear hi221_5 hl221_5
                  replace p221 := eq_true p221
                  replace q221 := eq_true q221
                  have ea_ := Option.some.inj (hx219_4.symm.trans hx221_4)
                  injection ea_ with ea_ en_ ec_
                  subst ea_
                  subst ec_
                  clear en_
                  have ea_ := Option.some.inj (hx219_5.symm.trans hx221_5)
                  injection ea_ with ea_ en_ ec_
                  subst ea_
                  subst ec_
                  clear en_
                  have p222 : 0 ≤ (x5_1 : Int) := of_decide_eq_true (by first | (with_reducible assumption) | assumption)
                  have q222 : x5_1 < (l0.length : Int) := of_decide_eq_true (by first | (with_reducible assumption) | assumption)
                  obtain ⟨ad222, A222_4, c222_4, A222_5, c222_5, e222, hx222_0, hx222_1, hx222_2, hx222_3, hx222_4, hx222_5, hl222_4, hi222_4, hl222_5, hi222_5⟩ := at_T52 HR0.out x5_1 p222 q222
                  obtain rfl : ad219 = ad222 := (by injection e222)
                  have HR222_4 := Aside0.mk hi222_4
                  have HC222_4 := Aside0.mk hl222_4
                  clear hi222_4 hl222_4
                  have HR222_5 := Aside0.mk hi222_5
                  have HC222_5 := Aside0.mk hl222_5
                  clear hi222_5 hl222_5
                  replace p222 := eq_true p222
                  replace q222 := eq_true q222
                  have ea_ := Option.some.inj (hx219_4.symm.trans hx222_4)
                  injection ea_ with ea_ en_ ec_
                  subst ea_
                  subst ec_
                  clear en_
                  have ea_ := Option.some.inj (hx219_5.symm.trans hx222_5)
                  injection ea_ with ea_ en_ ec_
                  subst ea_
                  subst ec_
                  clear en_
                  go_wp2
                  go_ret
                  exact ⟨by first | rfl | (simp; done) | (simp [*]; done), by repeat (first | exact Drawn0.refl _ | apply Drawn0.step)⟩
              · rw [if_neg c7] at H
                have c7b0 : (((rd_T52 l0 x5_1).f2.f0) == (wrap64 ((wrap64 (x1_1 + 1)) + 1))) = false := beq_eq_false_iff_ne.mpr c7
                have c7b1 : (((rd_T52 l0 x5_1).f2.f0) != (wrap64 ((wrap64 (x1_1 + 1)) + 1))) = true := bne_iff_ne.mpr c7
                obtain rfl := Option.some.inj H
                have p219 : 0 ≤ (x5_1 : Int) := of_decide_eq_true (by first | (with_reducible assumption) | assumption)
                have q219 : x5_1 < (l0.length : Int) := of_decide_eq_true (by first | (with_reducible assumption) | assumption)
                obtain ⟨ad219, A219_4, c219_4, A219_5, c219_5, e219, hx219_0, hx219_1, hx219_2, hx219_3, hx219_4, hx219_5, hl219_4, hi219_4, hl219_5, hi219_5⟩ := at_T52 HR0.out x5_1 p219 q219
                cases e219
                have HR219_4 := Aside0.mk hi219_4
                have HC219_4 := Aside0.mk hl219_4
                clear hi219_4 hl219_4
                have HR219_5 := Aside0.mk hi219_5
                have HC219_5 := Aside0.mk hl219_5
                clear hi219_5 hl219_5
                replace p219 := eq_true p219
                replace q219 := eq_true q219
                have p220 : 0 ≤ (x5_1 : Int) := of_decide_eq_true (by first | (with_reducible assumption) | assumption)
                have q220 : x5_1 < (l0.length : Int) := of_decide_eq_true (by first | (with_reducible assumption) | assumption)
                obtain ⟨ad220, A220_4, c220_4, A220_5, c220_5, e220, hx220_0, hx220_1, hx220_2, hx220_3, hx220_4, hx220_5, hl220_4, hi220_4, hl220_5, hi220_5⟩ := at_T52 HR0.out x5_1 p220 q220
                obtain rfl : ad219 = ad220 := (by injection e220)
                have HR220_4 := Aside0.mk hi220_4
                have HC220_4 := Aside0.mk hl220_4
                clear hi220_4 hl220_4
                have HR220_5 := Aside0.mk hi220_5
                have HC220_5 := Aside0.mk hl220_5
                clear hi220_5 hl220_5
                replace p220 := eq_true p220
                replace q220 := eq_true q220
                have ea_ := Option.some.inj (hx219_4.symm.trans hx220_4)
                injection ea_ with ea_ en_ ec_
                subst ea_
                subst ec_
                clear en_
                have ea_ := Option.some.inj (hx219_5.symm.trans hx220_5)
                injection ea_ with ea_ en_ ec_
                subst ea_
                subst ec_
                clear en_
                have p221 : 0 ≤ (x5_1 : Int) := of_decide_eq_true (by first | (with_reducible assumption) | assumption)
                have q221 : x5_1 < (l0.length : Int) := of_decide_eq_true (by first | (with_reducible assumption) | assumption)
                obtain ⟨ad221, A221_4, c221_4, A221_5, c221_5, e221, hx221_0, hx221_1, hx221_2, hx221_3, hx221_4, hx221_5, hl221_4, hi221_4, hl221_5, hi221_5⟩ := at_T52 HR0.out x5_1 p221 q221
                obtain rfl : ad219 = ad221 := (by injection e221)
                have HR221_4 := Aside0.mk hi221_4
                have HC221_4 := Aside0.mk hl221_4
                clear hi221_4 hl221_4
                have HR221_5 := Aside0.mk hi221_5
                have HC221_5 := Aside0.mk hl221_5
                clear hi221_5 hl221_5
                replace p221 := eq_true p221
                replace q221 := eq_true q221
                have ea_ := Option.some.inj (hx219_4.symm.trans hx221_4)
                injection ea_ with ea_ en_ ec_
                subst ea_
                subst ec_
                clear en_
                have ea_ := Option.some.inj (hx219_5.symm.trans hx221_5)
                injection ea_ with ea_ en_ ec_
                subst ea_
                subst ec_
                clear en_
                go_wp2
                go_ret
                exact ⟨by first | rfl | (simp; done) | (simp [*]; done), by repeat (first | exact Drawn0.refl _ | apply Drawn0.step)⟩
            · rw [if_neg c6] at H
              have c6b0 : (((rd_T52 l0 x5_1).f1) == (wrap64 (x1_1 + 1))) = false := beq_eq_false_iff_ne.mpr c6
              have c6b1 : (((rd_T52 l0 x5_1).f1) != (wrap64 (x1_1 + 1))) = true := bne_iff_ne.mpr c6
              obtain rfl := Option.some.inj H
              have p219 : 0 ≤ (x5_1 : Int) := of_decide_eq_true (by first | (with_reducible assumption) | assumption)
              have q219 : x5_1 < (l0.length : Int) := of_decide_eq_true (by first | (with_reducible assumption) | assumption)
              obtain ⟨ad219, A219_4, c219_4, A219_5, c219_5, e219, hx219_0, hx219_1, hx219_2, hx219_3, hx219_4, hx219_5, hl219_4, hi219_4, hl219_5, hi219_5⟩ := at_T52 HR0.out x5_1 p219 q219
              cases e219
              have HR219_4 := Aside0.mk hi219_4
              have HC219_4 := Aside0.mk hl219_4
              clear hi219_4 hl219_4
              have HR219_5 := Aside0.mk hi219_5
              have HC219_5 := Aside0.mk hl219_5
              clear hi219_5 hl219_5
              replace p219 := eq_true p219
              replace q219 := eq_true q219
              have p220 : 0 ≤ (x5_1 : Int) := of_decide_eq_true (by first | (with_reducible assumption) | assumption)
              have q220 : x5_1 < (l0.length : Int) := of_decide_eq_true (by first | (with_reducible assumption) | assumption)
              obtain ⟨ad220, A220_4, c220_4, A220_5, c220_5, e220, hx220_0, hx220_1, hx220_2, hx220_3, hx220_4, hx220_5, hl220_4, hi220_4, hl220_5, hi220_5⟩ := at_T52 HR0.out x5_1 p220 q220
              obtain rfl : ad219 = ad220 := (by injection e220)
              have HR220_4 := Aside0.mk hi220_4
              have HC220_4 := Aside0.mk hl220_4
              clear hi220_4 hl220_4
              have HR220_5 := Aside0.mk hi220_5
              have HC220_5 := Aside0.mk hl220_5
              clear hi220_5 hl220_5
              replace p220 := eq_true p220
              replace q220 := eq_true q220
              have ea_ := Option.some.inj (hx219_4.symm.trans hx220_4)
              injection ea_ with ea_ en_ ec_
              subst ea_
              subst ec_
              clear en_
              have ea_ := Option.some.inj (hx219_5.symm.trans hx220_5)
              injection ea_ with ea_ en_ ec_
              subst ea_
              subst ec_
              clear en_
              go_wp2
              go_ret
              exact ⟨by first | rfl | (simp; done) | (simp [*]; done), by repeat (first | exact Drawn0.refl _ | apply Drawn0.step)⟩
          · rw [if_neg c5] at H
            have c5b0 : (((rd_T52 l0 x5_1).f0) == x1_1) = false := beq_eq_false_iff_ne.mpr c5
            have c5b1 : (((rd_T52 l0 x5_1).f0) != x1_1) = true := bne_iff_ne.mpr c5
            obtain rfl := Option.some.inj H
            have p219 : 0 ≤ (x5_1 : Int) := of_decide_eq_true (by first | (with_reducible assumption) | assumption)
            have q219 : x5_1 < (l0.length : Int) := of_decide_eq_true (by first | (with_reducible assumption) | assumption)
            obtain ⟨ad219, A219_4, c219_4, A219_5, c219_5, e219, hx219_0, hx219_1, hx219_2, hx219_3, hx219_4, hx219_5, hl219_4, hi219_4, hl219_5, hi219_5⟩ := at_T52 HR0.out x5_1 p219 q219
            cases e219
            have HR219_4 := Aside0.mk hi219_4
            have HC219_4 := Aside0.mk hl219_4
            clear hi219_4 hl219_4
            have HR219_5 := Aside0.mk hi219_5
            have HC219_5 := Aside0.mk hl219_5
            clear hi219_5 hl219_5
            replace p219 := eq_true p219
            replace q219 := eq_true q219
            go_wp2
            go_ret
            exact ⟨by first | rfl | (simp; done) | (simp [*]; done), by repeat (first | exact Drawn0.refl _ | apply Drawn0.step)⟩
        · rw [if_neg c4] at H
          exact absurd H (by simp)
      · rw [if_neg c3] at H
        have c3b0 : decide (x5_1 < (l0.length : Int)) = false := decide_eq_false c3
        clear c3
        obtain rfl := Option.some.inj H
        go_wp2
        go_ret
        exact ⟨by first | rfl | (simp; done) | (simp [*]; done), by repeat (first | exact Drawn0.refl _ | apply Drawn0.step)⟩

/-! ### laws_FnExactThingsIn: function 10 -/
def laws_FnExactThingsIn.f (k : Nat) (l0 : List Int) (a1 a2 : Int) : Option Bool := if (l0.length : Int) > 1048576 then some true else
  (laws_toIntS.f k l0).bind fun x => (spec_ThingsIn.f k x a1 a2).bind fun ws => (impl_ThingsIn.f k x a1 a2).bind fun gs => (laws_eqThingS.f k gs.1 ws.1).bind fun e1 => (laws_eqIntS.f k x x).bind fun e2 =>
  (laws_markIntS.f k x 1).bind fun mk => (laws_markThingS.f k gs.1 1).bind fun mb => (laws_heldThingS.f k mb.2 1).bind fun hb => if e1 = true ∧ gs.2 = ws.2 ∧ e2 = true ∧ ¬ mk.1 < 0 ∧ ¬ hb < 0 ∧ hb = mb.1 then some true else none
structure TIn (w W : World) (s1 s2 : Nat) (vw vx vg : Value) (ws : List S52) (xs : List Int) (gs : List S52) : Prop where
  below : Below w.heap.size w W
  sw : Kd.S k52 52 W w.heap.size (fun k => k < s1) vw ws
  rx : Kd.R (Kd.int .i64) 3 W w.heap.size (fun k => s1 ≤ k ∧ k < s2) vx xs
  sg : Kd.S k52 52 W w.heap.size (fun k => s2 ≤ k) vg gs
theorem TIn.step {w W W' : World} {s1 s2 : Nat} {vw vx vg : Value} {ws : List S52} {xs : List Int} {gs : List S52} (h : TIn w W s1 s2 vw vx vg ws xs gs) (hb : Below W.heap.size W W') : TIn w W' s1 s2 vw vx vg ws xs gs :=
  ⟨below_step h.below hb, Kd.S_below h.sw hb, Kd.R_below h.rx hb, Kd.S_below h.sg hb⟩
theorem drawn_below {w W : World} (h : Drawn0 w W) : Below w.heap.size w W := by
  obtain ⟨nd, rfl⟩ := h
  exact pw_below_drewN (Below.refl _ _) nd
set_option maxHeartbeats 8000000 in
set_option maxRecDepth 100000 in
theorem laws_FnExactThingsIn.calls (k : Nat) (A0 : Option Addr) (c0 : Nat) (l0 : List Int) (a1 : Int) (a2 : Int) (r : Bool) (w : World) (hr0 : Kd.C (Kd.int .i64) w A0 l0.length l0) (hc0 : l0.length ≤ c0) (h : laws_FnExactThingsIn.f k l0 a1 a2 = some r) :
    Calls Try.prog 10 #[.slice A0 l0.length c0, .int .i64 a1, .int .i64 a2] w fun e w' => e = .returned (.bool r) ∧ Below w.heap.size w w' := by
  unfold laws_FnExactThingsIn.f at h
  by_cases hz : (l0.length : Int) > 1048576
  · rw [if_pos hz] at h
    obtain rfl := Option.some.inj h
    have hzd : decide ((1048576 : Int) < (l0.length : Int)) = true := decide_eq_true hz
    clear hr0 hc0 h hz
    go_enter Try.func10, Try.ntmps10
    go_wp2
    go_ret
    exact ⟨rfl, by repeat (first | exact Below.refl _ _ | apply below_drew1 | apply pw_below_drewN)⟩
  · rw [if_neg hz] at h
    obtain ⟨x, FX, h⟩ := Option.bind_eq_some_iff.1 h
    obtain ⟨⟨ws, wb⟩, FS, h⟩ := Option.bind_eq_some_iff.1 h
    obtain ⟨⟨gs, gb⟩, FI, h⟩ := Option.bind_eq_some_iff.1 h
    obtain ⟨e1, FE, h⟩ := Option.bind_eq_some_iff.1 h
    obtain ⟨e2, FQ, h⟩ := Option.bind_eq_some_iff.1 h
    obtain ⟨⟨mk1, mk2⟩, FM, h⟩ := Option.bind_eq_some_iff.1 h
    obtain ⟨⟨mb1, mb2⟩, FB, h⟩ := Option.bind_eq_some_iff.1 h
    obtain ⟨hb, FH, h⟩ := Option.bind_eq_some_iff.1 h
    by_cases hc : e1 = true ∧ gb = wb ∧ e2 = true ∧ ¬ mk1 < 0 ∧ ¬ hb < 0 ∧ hb = mb1
    · rw [if_pos hc] at h
      obtain rfl := Option.some.inj h
      obtain ⟨rfl, rfl, rfl, hmk, hhb, rfl⟩ := hc
      have HR0 := Aside0.mk hr0
      have HC0 := Aside0.mk hc0
      have AX := Aside0.mk FX
      have AS := Aside0.mk FS
      have AI := Aside0.mk FI
      have AE := Aside0.mk FE
      have AQ := Aside0.mk FQ
      have AM := Aside0.mk FM
      have AB := Aside0.mk FB
      have AH := Aside0.mk FH
      have hzd : decide ((1048576 : Int) < (l0.length : Int)) = false := decide_eq_false hz
      have hmd : decide (mk1 < 0) = false := decide_eq_false hmk
      have hhd : decide (hb < 0) = false := decide_eq_false hhb
      have hbn : (gb != gb) = false := by simp
      have ct := fun W hW => laws_toIntS.calls k A0 c0 l0 x W (Kd.C_below hr0 hW) hc0 FX
      have CT := Aside0.mk ct
      clear hr0 hc0 h FX FS FI FE FQ FM FB FH hz hmk hhb ct
      have T1 := Aside0.mk trivial
      have T2 := Aside0.mk trivial
      have T3 := Aside0.mk trivial
      have T5 := Aside0.mk trivial
      have T6 := Aside0.mk trivial
      have T7 := Aside0.mk trivial
      have T8 := Aside0.mk trivial
      have T9 := Aside0.mk trivial
      have T4 := Aside0.mk trivial
      go_enter Try.func10, Try.ntmps10
      go_wp2_with (first
        | (clear T1; go_at_call 12; refine (CT.out _ (by repeat (first | exact Below.refl _ _ | apply below_drew1 | apply pw_below_drewN))).mono ?_; rintro e w2 ⟨vt, rfl, ht, hb2⟩; have B2 := Aside0.mk (show Below w.heap.size w w2 from hb2); obtain ⟨At, dt, et, lt, ct_⟩ := Kd.R_reads ht; subst et; have cs := spec_ThingsIn.calls k At dt x a1 a2 ws gb w2 ct_ lt AS.out; clear ht lt ct_ hb2)
        | (go_at_call 38; refine cs.mono ?_; rintro e w3 ⟨vw, rfl, hsw, hb3⟩; obtain ⟨Aw, dw, ew⟩ := Kd.S_slice hsw; subst ew; have SW := Aside0.mk (Kd.S_lower (Kd.S_mono (ok' := fun k_ => k_ < w3.heap.size) (Kd.S_bound hsw) (fun k_ hk => hk.2.2.1)) B2.out.size); have B3 := Aside0.mk (below_step B2.out hb3); clear cs hsw hb3)
        | (clear T2; go_at_call 12; refine (CT.out w3 B3.out).mono ?_; rintro e w4 ⟨vx, rfl, hx, hb4⟩; obtain ⟨Ax, dx, ex⟩ := Kd.R_slice hx; subst ex; have RX := Aside0.mk (Kd.R_lower (Kd.R_mono (ok' := fun k_ => w3.heap.size ≤ k_ ∧ k_ < w4.heap.size) (Kd.R_bound hx) (fun k_ hk => ⟨hk.2.1, hk.2.2.1⟩)) B3.out.size); have SW4 := Aside0.mk (Kd.S_below SW.out hb4); have B4 := Aside0.mk (below_step B3.out hb4); have Z4 := Aside0.mk hb4.size; clear SW hx hb4; have ci := impl_ThingsIn.calls k Ax dx x a1 a2 gs gb w4 (Kd.R_reads' RX.out).2.2 (Kd.R_reads' RX.out).2.1 AI.out)
        | (clear T3; go_at_call 39; refine ci.mono ?_; rintro e w5 ⟨vg, rfl, hsg, hb5⟩; obtain ⟨Ag, dg, eg⟩ := Kd.S_slice hsg; subst eg; have TI := Aside0.mk (show TIn w w5 w3.heap.size w4.heap.size (.slice Aw ws.length dw) (.slice Ax x.length dx) (.slice Ag gs.length dg) ws x gs from ⟨below_step B4.out hb5, Kd.S_below SW4.out hb5, Kd.R_below RX.out hb5, Kd.S_lower (Kd.S_mono (Kd.S_bound hsg) (fun k_ hk => hk.2.1)) B4.out.size⟩); clear ci hsg hb5 SW4 RX; have ce := laws_eqThingS.calls k _ _ gs _ _ ws true w5 (Kd.S_reads' TI.out.sg).2.2 (Kd.S_reads' TI.out.sg).2.1 (Kd.S_reads' TI.out.sw).2.2 (Kd.S_reads' TI.out.sw).2.1 AE.out)
        | (clear T4; go_at_call 40; refine ce.mono ?_; rintro e w6 ⟨rfl, hb6⟩; have n0_ := Aside0.mk (TI.out.step hb6); clear TI hb6 ce; have TI := n0_; clear n0_)
        | (go_at_call 12; refine (CT.out _ (below_step TI.out.below (by repeat (first | exact Below.refl _ _ | apply below_drew1 | apply pw_below_drewN)))).mono ?_; rintro e w7 ⟨vt, rfl, ht, hb7⟩; obtain ⟨A9, d9, et, lt, ct_⟩ := Kd.R_reads ht; subst et; have n0_ := Aside0.mk (TI.out.step (below_step (show Below w6.heap.size w6 _ from (by repeat (first | exact Below.refl _ _ | apply below_drew1 | apply pw_below_drewN))) hb7)); clear TI hb7; have TI := n0_; clear n0_; have cq := laws_eqIntS.calls k Ax dx x A9 d9 x true w7 (Kd.R_reads' TI.out.rx).2.2 (Kd.R_reads' TI.out.rx).2.1 ct_ lt AQ.out; clear ht lt ct_)
        | (go_at_call 14; refine cq.mono ?_; rintro e w8 ⟨rfl, hd8⟩; have n0_ := Aside0.mk (TI.out.step (drawn_below hd8)); clear TI hd8 cq; have TI := n0_; clear n0_; have cm := laws_markIntS.calls k (fun k_ => w3.heap.size ≤ k_ ∧ k_ < w4.heap.size) _ x 1 mk1 mk2 w w8 TI.out.below TI.out.rx AM.out)
        | (go_at_call 15; refine cm.mono ?_; rintro e w9 ⟨rfl, hx9, hb9, hk9⟩; have n0_ := Aside0.mk (show Below w.heap.size w w9 from hb9); have n1_ := Aside0.mk (Kd.S_kept TI.out.sw hk9 (fun k_ h1 h2 => by have := h2.1; omega)); have n2_ := Aside0.mk (Kd.S_kept TI.out.sg hk9 (fun k_ h1 h2 => by have := h2.2; omega)); clear TI cm hx9 hb9 hk9; have BB := n0_; have SW := n1_; have SG := n2_; clear n0_ n1_ n2_; have ce := laws_eqThingS.calls k _ _ gs _ _ ws true w9 (Kd.S_reads' SG.out).2.2 (Kd.S_reads' SG.out).2.1 (Kd.S_reads' SW.out).2.2 (Kd.S_reads' SW.out).2.1 AE.out)
        | (clear T5; go_at_call 40; refine ce.mono ?_; rintro e w10 ⟨rfl, hb10⟩; have n0_ := Aside0.mk (below_step BB.out hb10); have n1_ := Aside0.mk (Kd.S_below SW.out hb10); have n2_ := Aside0.mk (Kd.S_below SG.out hb10); clear BB SW SG hb10 ce; have BB := n0_; have SW := n1_; have SG := n2_; clear n0_ n1_ n2_; have cb := laws_markThingS.calls k (fun k_ => w4.heap.size ≤ k_) _ gs 1 hb mb2 w w10 BB.out SG.out AB.out)
        | (go_at_call 41; refine cb.mono ?_; rintro e w11 ⟨rfl, hs11, hb11, hk11⟩; have n0_ := Aside0.mk (show Below w.heap.size w w11 from hb11); have n1_ := Aside0.mk (Kd.S_kept SW.out hk11 (fun k_ h1 h2 => by have := Z4.out; omega)); have n2_ := Aside0.mk hs11; clear BB SW SG cb hs11 hb11 hk11; have BB := n0_; have SW := n1_; have SG := n2_; clear n0_ n1_ n2_; have LG := Aside0.mk ((Kd.S_reads' SG.out).1); have ch := laws_heldThingS.calls k Ag dg mb2 1 hb w11 (Kd.S_reads' SG.out).2.2 (by have := (Kd.S_reads' SG.out).2.1; rw [← LG.out]; exact this) AH.out; rw [← LG.out] at ch)
        | (clear T6; go_at_call 42; refine ch.mono ?_; rintro e w12 ⟨rfl, hd⟩; have hb12 := drawn_below hd; have n0_ := Aside0.mk (below_step BB.out hb12); have n1_ := Aside0.mk (Kd.S_below SW.out hb12); have n2_ := Aside0.mk (Kd.S_below SG.out hb12); clear BB SW SG hb12 hd ch; have BB := n0_; have SW := n1_; have SG := n2_; clear n0_ n1_ n2_)
        | (clear T7; go_at_call 12; refine (CT.out _ (below_step BB.out (by repeat (first | exact Below.refl _ _ | apply below_drew1 | apply pw_below_drewN)))).mono ?_; rintro e w13 ⟨vt, rfl, ht, hb13⟩; obtain ⟨A10, d10, et, lt, ct_⟩ := Kd.R_reads ht; subst et; have hb13' := below_step (show Below w12.heap.size w12 _ from (by repeat (first | exact Below.refl _ _ | apply below_drew1 | apply pw_below_drewN))) hb13; have n0_ := Aside0.mk (below_step BB.out hb13'); have n1_ := Aside0.mk (Kd.S_below SW.out hb13'); have n2_ := Aside0.mk (Kd.S_below SG.out hb13'); clear BB SW SG hb13 hb13'; have BB := n0_; have SW := n1_; have SG := n2_; clear n0_ n1_ n2_; have ci2 := impl_ThingsIn.calls k A10 d10 x a1 a2 gs gb w13 ct_ lt AI.out; clear ht lt ct_)
        | (go_at_call 39; refine ci2.mono ?_; rintro e w14 ⟨vh, rfl, hsh, hb14⟩; obtain ⟨Ah, dh, eh, leh, ceh⟩ := Kd.S_reads hsh; subst eh; have n0_ := Aside0.mk (below_step BB.out hb14); have n1_ := Aside0.mk (Kd.S_below SW.out hb14); have n2_ := Aside0.mk (Kd.S_below SG.out hb14); clear BB SW SG hb14 ci2 hsh; have BB := n0_; have SW := n1_; have SG := n2_; clear n0_ n1_ n2_; have ce := laws_eqThingS.calls k _ _ gs _ _ ws true w14 ceh leh (Kd.S_reads' SW.out).2.2 (Kd.S_reads' SW.out).2.1 AE.out; clear ceh leh)
        | (clear T8; go_at_call 40; refine ce.mono ?_; rintro e w15 ⟨rfl, hb15⟩; have n0_ := Aside0.mk (below_step BB.out hb15); have n1_ := Aside0.mk (Kd.S_below SW.out hb15); have n2_ := Aside0.mk (Kd.S_below SG.out hb15); clear BB SW SG hb15 ce; have BB := n0_; have SW := n1_; have SG := n2_; clear n0_ n1_ n2_; have ch := laws_heldThingS.calls k Ag dg mb2 1 hb w15 (Kd.S_reads' SG.out).2.2 (by have := (Kd.S_reads' SG.out).2.1; rw [← LG.out]; exact this) AH.out; rw [← LG.out] at ch)
        | (clear T9; go_at_call 42; refine ch.mono ?_; rintro e w16 ⟨rfl, hd⟩; have n0_ := Aside0.mk (below_step BB.out (drawn_below hd)); clear BB SW SG hd ch; have BB := n0_; clear n0_))
      go_ret
      exact ⟨rfl, BB.out⟩
    · rw [if_neg hc] at h
      cases h

end Go.Proofs.Ytaihpphekkiemaa.QFnExactThingsIn
