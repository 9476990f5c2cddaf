-- Written by a program of this session that drives the print of the kit, with contracts of its own beside the printed ones. Lean checks it.
import Derived.Test.YtnkcoooifjjmbaaQFnExactHistOkx0
namespace Go.Proofs.Ytnkcoooifjjmbaa.QFnExactHistOk
open Go.RowKit Go.Proofs.YtnkcoooifjjmbaaW.PrintWords Go.Proofs.YtnkcoooifjjmbaaW.PrintLast Go.Proofs.YtnkcoooifjjmbaaW.PrintMore
attribute [local go_sem] max2_int min2_int max_two min_two max_three min_three max_four min_four   -- for this text's walks alone
set_option linter.unusedVariables false
set_option linter.unusedSimpArgs false

/-! ### spec_ConfigOk: function 27 -/
def spec_ConfigOk.f (a0_0 : Int) (a0_1 : Int) (a0_2 : Int) : Option (Bool) := if a0_0 ≥ 3 then (if a0_0 ≤ 12 then (if a0_1 ≥ 1 then (if a0_1 ≤ 3 then (if a0_2 ≥ 0 then (some (decide (a0_2 ≤ 100))) else (some false)) else (some false)) else (some false)) else (some false)) else (some false)
set_option maxHeartbeats 8000000 in
set_option maxRecDepth 100000 in
theorem spec_ConfigOk.calls (a0_0 : Int) (a0_1 : Int) (a0_2 : Int) (r : Bool) (w : World) (h : spec_ConfigOk.f a0_0 a0_1 a0_2 = some r) :
    Calls Try.prog 27 #[.agg #[.int .i64 a0_0, .int .i64 a0_1, .int .i64 a0_2]] w fun e w' => e = .returned (.bool r) ∧ Below w.heap.size w w' := by
  have hu39 := Try.underlying39
  have HB := Aside0.mk (Below.refl w.heap.size w)
  have H : (if a0_0 ≥ 3 then (if a0_0 ≤ 12 then (if a0_1 ≥ 1 then (if a0_1 ≤ 3 then (if a0_2 ≥ 0 then (some (decide (a0_2 ≤ 100))) else (some false)) else (some false)) else (some false)) else (some false)) else (some false)) = some r := h
  clear h
  by_cases c2 : a0_0 ≥ 3
  · rw [if_pos c2] at H
    have c2b0 : decide (3 ≤ a0_0) = true := decide_eq_true c2
    clear c2
    by_cases c3 : a0_0 ≤ 12
    · rw [if_pos c3] at H
      have c3b0 : decide (a0_0 ≤ 12) = true := decide_eq_true c3
      clear c3
      by_cases c4 : a0_1 ≥ 1
      · rw [if_pos c4] at H
        have c4b0 : decide (1 ≤ a0_1) = true := decide_eq_true c4
        clear c4
        by_cases c5 : a0_1 ≤ 3
        · rw [if_pos c5] at H
          have c5b0 : decide (a0_1 ≤ 3) = true := decide_eq_true c5
          clear c5
          by_cases c6 : a0_2 ≥ 0
          · rw [if_pos c6] at H
            have c6b0 : decide (0 ≤ a0_2) = true := decide_eq_true c6
            clear c6
            obtain rfl := Option.some.inj H
            go_enter Try.func27, Try.ntmps27
            go_wp2_with (first | ((with_reducible refine gate_dst (N := 1) rfl ?_); refine box_event ?hg (N := 1) ?hd (cs := #[.int .i64 a0_0, .int .i64 a0_1, .int .i64 a0_2]) (t := 39) ?hr ?_; (case hd => rfl); (case hg => rfl); (case hr => first | (go_simp; done) | (go_simp; rfl)); intro gb146 hg w7 hbox hb; have n0_ := Aside0.mk (below_step (by repeat (first | (with_reducible first | exact HB.out | apply below_alloc | apply pw_below_drewN | apply below_drew1) | exact HB.out)) hb); have n1_ := Aside0.mk (hbox); have n2_ := Aside0.mk ((by rw [hg]; exact (below_size (by repeat (first | (with_reducible first | exact HB.out | apply below_alloc | apply pw_below_drewN | apply below_drew1) | exact HB.out))) : w.heap.size ≤ gb146)); have n3_ := Aside0.mk ((by rw [hg]; exact (below_size (by repeat (first | (with_reducible first | exact HB.out | apply below_alloc | apply pw_below_drewN | apply below_drew1) | exact HB.out))) : w.heap.size ≤ gb146)); clear HB; have HB := n0_; have BK146 := n1_; have GW146 := n2_; have GE146 := n3_; clear n0_ n1_ n2_ n3_; clear hb hbox hg; have hcz8_0 : w7.cell? ⟨gb146, 0, none⟩ = some (.int .i64 a0_0) := (blk_cell BK146.out 0).trans rfl; have hcz8_1 : w7.cell? ⟨gb146, 1, none⟩ = some (.int .i64 a0_1) := (blk_cell BK146.out 1).trans rfl; have hcz8_2 : w7.cell? ⟨gb146, 2, none⟩ = some (.int .i64 a0_2) := (blk_cell BK146.out 2).trans rfl; have hfz8_0 := blk_frozen BK146.out 0; have hfz8_1 := blk_frozen BK146.out 1; have hfz8_2 := blk_frozen BK146.out 2))
            go_ret
            exact ⟨by first | rfl | (simp [errW_none, errW_some] <;> rfl) | (simp [*, errW_none, errW_some] <;> rfl), by repeat (first | (with_reducible first | exact HB.out | apply below_alloc | apply pw_below_drewN | apply below_drew1 | refine below_set ?_ GE146.out) | exact HB.out)⟩
          · rw [if_neg c6] at H
            have c6b0 : decide (0 ≤ a0_2) = false := decide_eq_false c6
            clear c6
            obtain rfl := Option.some.inj H
            go_enter Try.func27, Try.ntmps27
            go_wp2_with (first | ((with_reducible refine gate_dst (N := 1) rfl ?_); refine box_event ?hg (N := 1) ?hd (cs := #[.int .i64 a0_0, .int .i64 a0_1, .int .i64 a0_2]) (t := 39) ?hr ?_; (case hd => rfl); (case hg => rfl); (case hr => first | (go_simp; done) | (go_simp; rfl)); intro gb146 hg w9 hbox hb; have n0_ := Aside0.mk (below_step (by repeat (first | (with_reducible first | exact HB.out | apply below_alloc | apply pw_below_drewN | apply below_drew1) | exact HB.out)) hb); have n1_ := Aside0.mk (hbox); have n2_ := Aside0.mk ((by rw [hg]; exact (below_size (by repeat (first | (with_reducible first | exact HB.out | apply below_alloc | apply pw_below_drewN | apply below_drew1) | exact HB.out))) : w.heap.size ≤ gb146)); have n3_ := Aside0.mk ((by rw [hg]; exact (below_size (by repeat (first | (with_reducible first | exact HB.out | apply below_alloc | apply pw_below_drewN | apply below_drew1) | exact HB.out))) : w.heap.size ≤ gb146)); clear HB; have HB := n0_; have BK146 := n1_; have GW146 := n2_; have GE146 := n3_; clear n0_ n1_ n2_ n3_; clear hb hbox hg; have hcz10_0 : w9.cell? ⟨gb146, 0, none⟩ = some (.int .i64 a0_0) := (blk_cell BK146.out 0).trans rfl; have hcz10_1 : w9.cell? ⟨gb146, 1, none⟩ = some (.int .i64 a0_1) := (blk_cell BK146.out 1).trans rfl; have hcz10_2 : w9.cell? ⟨gb146, 2, none⟩ = some (.int .i64 a0_2) := (blk_cell BK146.out 2).trans rfl; have hfz10_0 := blk_frozen BK146.out 0; have hfz10_1 := blk_frozen BK146.out 1; have hfz10_2 := blk_frozen BK146.out 2))
            go_ret
            exact ⟨by first | rfl | (simp [errW_none, errW_some] <;> rfl) | (simp [*, errW_none, errW_some] <;> rfl), by repeat (first | (with_reducible first | exact HB.out | apply below_alloc | apply pw_below_drewN | apply below_drew1 | refine below_set ?_ GE146.out) | exact HB.out)⟩
        · rw [if_neg c5] at H
          have c5b0 : decide (a0_1 ≤ 3) = false := decide_eq_false c5
          clear c5
          obtain rfl := Option.some.inj H
          go_enter Try.func27, Try.ntmps27
          go_wp2_with (first | ((with_reducible refine gate_dst (N := 1) rfl ?_); refine box_event ?hg (N := 1) ?hd (cs := #[.int .i64 a0_0, .int .i64 a0_1, .int .i64 a0_2]) (t := 39) ?hr ?_; (case hd => rfl); (case hg => rfl); (case hr => first | (go_simp; done) | (go_simp; rfl)); intro gb146 hg w11 hbox hb; have n0_ := Aside0.mk (below_step (by repeat (first | (with_reducible first | exact HB.out | apply below_alloc | apply pw_below_drewN | apply below_drew1) | exact HB.out)) hb); have n1_ := Aside0.mk (hbox); have n2_ := Aside0.mk ((by rw [hg]; exact (below_size (by repeat (first | (with_reducible first | exact HB.out | apply below_alloc | apply pw_below_drewN | apply below_drew1) | exact HB.out))) : w.heap.size ≤ gb146)); have n3_ := Aside0.mk ((by rw [hg]; exact (below_size (by repeat (first | (with_reducible first | exact HB.out | apply below_alloc | apply pw_below_drewN | apply below_drew1) | exact HB.out))) : w.heap.size ≤ gb146)); clear HB; have HB := n0_; have BK146 := n1_; have GW146 := n2_; have GE146 := n3_; clear n0_ n1_ n2_ n3_; clear hb hbox hg; have hcz12_0 : w11.cell? ⟨gb146, 0, none⟩ = some (.int .i64 a0_0) := (blk_cell BK146.out 0).trans rfl; have hcz12_1 : w11.cell? ⟨gb146, 1, none⟩ = some (.int .i64 a0_1) := (blk_cell BK146.out 1).trans rfl; have hcz12_2 : w11.cell? ⟨gb146, 2, none⟩ = some (.int .i64 a0_2) := (blk_cell BK146.out 2).trans rfl; have hfz12_0 := blk_frozen BK146.out 0; have hfz12_1 := blk_frozen BK146.out 1; have hfz12_2 := blk_frozen BK146.out 2))
          go_ret
          exact ⟨by first | rfl | (simp [errW_none, errW_some] <;> rfl) | (simp [*, errW_none, errW_some] <;> rfl), by repeat (first | (with_reducible first | exact HB.out | apply below_alloc | apply pw_below_drewN | apply below_drew1 | refine below_set ?_ GE146.out) | exact HB.out)⟩
      · rw [if_neg c4] at H
        have c4b0 : decide (1 ≤ a0_1) = false := decide_eq_false c4
        clear c4
        obtain rfl := Option.some.inj H
        go_enter Try.func27, Try.ntmps27
        go_wp2_with (first | ((with_reducible refine gate_dst (N := 1) rfl ?_); refine box_event ?hg (N := 1) ?hd (cs := #[.int .i64 a0_0, .int .i64 a0_1, .int .i64 a0_2]) (t := 39) ?hr ?_; (case hd => rfl); (case hg => rfl); (case hr => first | (go_simp; done) | (go_simp; rfl)); intro gb146 hg w13 hbox hb; have n0_ := Aside0.mk (below_step (by repeat (first | (with_reducible first | exact HB.out | apply below_alloc | apply pw_below_drewN | apply below_drew1) | exact HB.out)) hb); have n1_ := Aside0.mk (hbox); have n2_ := Aside0.mk ((by rw [hg]; exact (below_size (by repeat (first | (with_reducible first | exact HB.out | apply below_alloc | apply pw_below_drewN | apply below_drew1) | exact HB.out))) : w.heap.size ≤ gb146)); have n3_ := Aside0.mk ((by rw [hg]; exact (below_size (by repeat (first | (with_reducible first | exact HB.out | apply below_alloc | apply pw_below_drewN | apply below_drew1) | exact HB.out))) : w.heap.size ≤ gb146)); clear HB; have HB := n0_; have BK146 := n1_; have GW146 := n2_; have GE146 := n3_; clear n0_ n1_ n2_ n3_; clear hb hbox hg; have hcz14_0 : w13.cell? ⟨gb146, 0, none⟩ = some (.int .i64 a0_0) := (blk_cell BK146.out 0).trans rfl; have hcz14_1 : w13.cell? ⟨gb146, 1, none⟩ = some (.int .i64 a0_1) := (blk_cell BK146.out 1).trans rfl; have hcz14_2 : w13.cell? ⟨gb146, 2, none⟩ = some (.int .i64 a0_2) := (blk_cell BK146.out 2).trans rfl; have hfz14_0 := blk_frozen BK146.out 0; have hfz14_1 := blk_frozen BK146.out 1; have hfz14_2 := blk_frozen BK146.out 2))
        go_ret
        exact ⟨by first | rfl | (simp [errW_none, errW_some] <;> rfl) | (simp [*, errW_none, errW_some] <;> rfl), by repeat (first | (with_reducible first | exact HB.out | apply below_alloc | apply pw_below_drewN | apply below_drew1 | refine below_set ?_ GE146.out) | exact HB.out)⟩
    · rw [if_neg c3] at H
      have c3b0 : decide (a0_0 ≤ 12) = false := decide_eq_false c3
      clear c3
      obtain rfl := Option.some.inj H
      go_enter Try.func27, Try.ntmps27
      go_wp2_with (first | ((with_reducible refine gate_dst (N := 1) rfl ?_); refine box_event ?hg (N := 1) ?hd (cs := #[.int .i64 a0_0, .int .i64 a0_1, .int .i64 a0_2]) (t := 39) ?hr ?_; (case hd => rfl); (case hg => rfl); (case hr => first | (go_simp; done) | (go_simp; rfl)); intro gb146 hg w15 hbox hb; have n0_ := Aside0.mk (below_step (by repeat (first | (with_reducible first | exact HB.out | apply below_alloc | apply pw_below_drewN | apply below_drew1) | exact HB.out)) hb); have n1_ := Aside0.mk (hbox); have n2_ := Aside0.mk ((by rw [hg]; exact (below_size (by repeat (first | (with_reducible first | exact HB.out | apply below_alloc | apply pw_below_drewN | apply below_drew1) | exact HB.out))) : w.heap.size ≤ gb146)); have n3_ := Aside0.mk ((by rw [hg]; exact (below_size (by repeat (first | (with_reducible first | exact HB.out | apply below_alloc | apply pw_below_drewN | apply below_drew1) | exact HB.out))) : w.heap.size ≤ gb146)); clear HB; have HB := n0_; have BK146 := n1_; have GW146 := n2_; have GE146 := n3_; clear n0_ n1_ n2_ n3_; clear hb hbox hg; have hcz16_0 : w15.cell? ⟨gb146, 0, none⟩ = some (.int .i64 a0_0) := (blk_cell BK146.out 0).trans rfl; have hcz16_1 : w15.cell? ⟨gb146, 1, none⟩ = some (.int .i64 a0_1) := (blk_cell BK146.out 1).trans rfl; have hcz16_2 : w15.cell? ⟨gb146, 2, none⟩ = some (.int .i64 a0_2) := (blk_cell BK146.out 2).trans rfl; have hfz16_0 := blk_frozen BK146.out 0; have hfz16_1 := blk_frozen BK146.out 1; have hfz16_2 := blk_frozen BK146.out 2))
      go_ret
      exact ⟨by first | rfl | (simp [errW_none, errW_some] <;> rfl) | (simp [*, errW_none, errW_some] <;> rfl), by repeat (first | (with_reducible first | exact HB.out | apply below_alloc | apply pw_below_drewN | apply below_drew1 | refine below_set ?_ GE146.out) | exact HB.out)⟩
  · rw [if_neg c2] at H
    have c2b0 : decide (3 ≤ a0_0) = false := decide_eq_false c2
    clear c2
    obtain rfl := Option.some.inj H
    go_enter Try.func27, Try.ntmps27
    go_wp2_with (first | ((with_reducible refine gate_dst (N := 1) rfl ?_); refine box_event ?hg (N := 1) ?hd (cs := #[.int .i64 a0_0, .int .i64 a0_1, .int .i64 a0_2]) (t := 39) ?hr ?_; (case hd => rfl); (case hg => rfl); (case hr => first | (go_simp; done) | (go_simp; rfl)); intro gb146 hg w17 hbox hb; have n0_ := Aside0.mk (below_step (by repeat (first | (with_reducible first | exact HB.out | apply below_alloc | apply pw_below_drewN | apply below_drew1) | exact HB.out)) hb); have n1_ := Aside0.mk (hbox); have n2_ := Aside0.mk ((by rw [hg]; exact (below_size (by repeat (first | (with_reducible first | exact HB.out | apply below_alloc | apply pw_below_drewN | apply below_drew1) | exact HB.out))) : w.heap.size ≤ gb146)); have n3_ := Aside0.mk ((by rw [hg]; exact (below_size (by repeat (first | (with_reducible first | exact HB.out | apply below_alloc | apply pw_below_drewN | apply below_drew1) | exact HB.out))) : w.heap.size ≤ gb146)); clear HB; have HB := n0_; have BK146 := n1_; have GW146 := n2_; have GE146 := n3_; clear n0_ n1_ n2_ n3_; clear hb hbox hg; have hcz18_0 : w17.cell? ⟨gb146, 0, none⟩ = some (.int .i64 a0_0) := (blk_cell BK146.out 0).trans rfl; have hcz18_1 : w17.cell? ⟨gb146, 1, none⟩ = some (.int .i64 a0_1) := (blk_cell BK146.out 1).trans rfl; have hcz18_2 : w17.cell? ⟨gb146, 2, none⟩ = some (.int .i64 a0_2) := (blk_cell BK146.out 2).trans rfl; have hfz18_0 := blk_frozen BK146.out 0; have hfz18_1 := blk_frozen BK146.out 1; have hfz18_2 := blk_frozen BK146.out 2))
    go_ret
    exact ⟨by first | rfl | (simp [errW_none, errW_some] <;> rfl) | (simp [*, errW_none, errW_some] <;> rfl), by repeat (first | (with_reducible first | exact HB.out | apply below_alloc | apply pw_below_drewN | apply below_drew1 | refine below_set ?_ GE146.out) | exact HB.out)⟩

/-! ### spec_StoryOk: function 11 -/
mutual
def spec_StoryOk.j0 : Nat → List (List (S28)) → Bool → Option (Bool)
  | 0, _, _ => none
  | k + 1, x1, x22 => if x22 = true then (some false) else (spec_StoryOk.l0 k x1 0)
def spec_StoryOk.l0 : Nat → List (List (S28)) → Int → Option (Bool)
  | 0, _, _ => none
  | k + 1, x1, x7 => if x7 < (x1.length : Int) then (if 0 ≤ x7 then (if ((rd_L6 x1 x7).length : Int) > 40 then (some false) else (spec_StoryOk.l0 k x1 (wrap64 (x7 + 1)))) else (none)) else (some true)
end
def spec_StoryOk.f (k : Nat) (a0_0 : Int) (a0_1 : Int) (a0_2 : Int) (l1 : List (List (S28))) (l2 : List Int) : Option (Bool) := (spec_ConfigOk.f a0_0 a0_1 a0_2).bind fun t148 => (if t148 = true then (if (l1.length : Int) = a0_1 then (spec_StoryOk.j0 k l1 (decide ((l2.length : Int) > 4000))) else (spec_StoryOk.j0 k l1 true)) else (spec_StoryOk.j0 k l1 true))
theorem spec_StoryOk.mono_l : ∀ k, (∀ y0 y1, LeO (spec_StoryOk.j0 k y0 y1) (spec_StoryOk.j0 (k + 1) y0 y1)) ∧ (∀ y0 y1, LeO (spec_StoryOk.l0 k y0 y1) (spec_StoryOk.l0 (k + 1) y0 y1))
  | 0 => ⟨fun _ _ r h => by simp [spec_StoryOk.j0] at h, fun _ _ r h => by simp [spec_StoryOk.l0] at h⟩
  | k + 1 => by
    obtain ⟨ih0, ih1⟩ := spec_StoryOk.mono_l k
    refine ⟨?_, ?_⟩
    · intro y0 y1
      unfold spec_StoryOk.j0
      repeat' first
      | (with_reducible exact ih0 _ _)
      | (with_reducible exact ih1 _ _)
      | (with_reducible exact LeO.refl _)
      | (with_reducible exact LeO.none _)
      | (with_reducible refine LeO.ite ?_ ?_)
      | (with_reducible refine LeO.bind ?_ (fun _ => ?_))
      | exact ih0 _ _
      | exact ih1 _ _
      | exact LeO.none _
      | refine LeO.ite ?_ ?_
      | refine LeO.bind ?_ (fun _ => ?_)
    · intro y0 y1
      unfold spec_StoryOk.l0
      repeat' first
      | (with_reducible exact ih0 _ _)
      | (with_reducible exact ih1 _ _)
      | (with_reducible exact LeO.refl _)
      | (with_reducible exact LeO.none _)
      | (with_reducible refine LeO.ite ?_ ?_)
      | (with_reducible refine LeO.bind ?_ (fun _ => ?_))
      | exact ih0 _ _
      | exact ih1 _ _
      | exact LeO.none _
      | refine LeO.ite ?_ ?_
      | refine LeO.bind ?_ (fun _ => ?_)
theorem spec_StoryOk.mono : ∀ a0 a1 a2 a3 a4 k, LeO (spec_StoryOk.f k a0 a1 a2 a3 a4) (spec_StoryOk.f (k + 1) a0 a1 a2 a3 a4) := by
  intro a0 a1 a2 a3 a4 k
  obtain ⟨ih0, ih1⟩ := spec_StoryOk.mono_l k
  unfold spec_StoryOk.f
  repeat' first
      | (with_reducible exact ih0 _ _)
      | (with_reducible exact ih1 _ _)
      | (with_reducible exact LeO.refl _)
      | (with_reducible exact LeO.none _)
      | (with_reducible refine LeO.ite ?_ ?_)
      | (with_reducible refine LeO.bind ?_ (fun _ => ?_))
      | exact ih0 _ _
      | exact ih1 _ _
      | exact LeO.none _
      | refine LeO.ite ?_ ?_
      | refine LeO.bind ?_ (fun _ => ?_)
set_option maxHeartbeats 8000000 in
set_option maxRecDepth 100000 in
theorem spec_StoryOk.calls (k : Nat) (a0_0 : Int) (a0_1 : Int) (a0_2 : Int) (A1 : Option Addr) (c1 : Nat) (l1 : List (List (S28))) (A2 : Option Addr) (c2 : Nat) (l2 : List Int) (r : Bool) (w : World) (hr1 : Kd.C (Kd.slice 28 k28) w A1 l1.length l1) (hc1 : l1.length ≤ c1) (hr2 : Kd.C (Kd.int .i64) w A2 l2.length l2) (hc2 : l2.length ≤ c2) (h : spec_StoryOk.f k a0_0 a0_1 a0_2 l1 l2 = some r) :
    Calls Try.prog 11 #[.agg #[.int .i64 a0_0, .int .i64 a0_1, .int .i64 a0_2], .slice A1 l1.length c1, .slice A2 l2.length c2] w fun e w' => e = .returned (.bool r) ∧ Below w.heap.size w w' := by
  have hu39 := Try.underlying39
  have HR1 := Aside0.mk hr1
  have HC1 := Aside0.mk hc1
  clear hr1 hc1
  have HR2 := Aside0.mk hr2
  have HC2 := Aside0.mk hc2
  clear hr2 hc2
  have HB := Aside0.mk (Below.refl w.heap.size w)
  have H : ((spec_ConfigOk.f a0_0 a0_1 a0_2).bind fun t148 => (if t148 = true then (if (l1.length : Int) = a0_1 then (spec_StoryOk.j0 k l1 (decide ((l2.length : Int) > 4000))) else (spec_StoryOk.j0 k l1 true)) else (spec_StoryOk.j0 k l1 true))) = some r := h
  clear h
  have HC4 := Aside0.mk H
  clear H
  go_enter Try.func11, Try.ntmps11
  go_upto_region 1 with (first | ((with_reducible refine gate_dst (N := 3) rfl ?_); (try (refine gate_guard (by rfl) ?_; dsimp only)); refine box_event ?hg (N := 3) ?hd (cs := #[.int .i64 a0_0, .int .i64 a0_1, .int .i64 a0_2]) (t := 39) ?hr ?_; (case hd => rfl); (case hg => rfl); (case hr => first | (go_simp; done) | (go_simp; rfl)); intro gb147 hg w5 hbox hb; have n0_ := Aside0.mk (below_step (by repeat (first | (with_reducible first | exact HB.out | apply below_alloc | apply pw_below_drewN | apply below_drew1) | exact HB.out)) hb); have n1_ := Aside0.mk (hbox); have n2_ := Aside0.mk ((by rw [hg]; exact (below_size (by repeat (first | (with_reducible first | exact HB.out | apply below_alloc | apply pw_below_drewN | apply below_drew1) | exact HB.out))) : w.heap.size ≤ gb147)); have n3_ := Aside0.mk ((by rw [hg]; exact (below_size (by repeat (first | (with_reducible first | exact HB.out | apply below_alloc | apply pw_below_drewN | apply below_drew1) | exact HB.out))) : w.heap.size ≤ gb147)); clear HB; have HB := n0_; have BK147 := n1_; have GW147 := n2_; have GE147 := n3_; clear n0_ n1_ n2_ n3_; clear hb hbox hg))
  (try simp only [Act.put, List.setIfInBounds_toArray, List.set_cons_zero, List.set_cons_succ])
  go_cut [22] (fun v22 wc => ∃ (kq : Nat) (x22_3 : Bool), v22 = .bool x22_3 ∧ Aside0 (spec_StoryOk.j0 kq l1 x22_3 = some r) ∧ Aside0 (kq ≤ k) ∧ Aside0 (wc.heap[gb147]? = some (.cells #[.int .i64 a0_0, .int .i64 a0_1, .int .i64 a0_2] 39 (0, 0))) ∧ Aside0 (Below w.heap.size w wc))
  case first =>
    have H := HC4.out
    clear HC4
    replace H := Option.bind_eq_some_iff.mp H
    obtain ⟨t148, A60, H⟩ := H
    replace H : (if t148 = true then (if (l1.length : Int) = a0_1 then (spec_StoryOk.j0 k l1 (decide ((l2.length : Int) > 4000))) else (spec_StoryOk.j0 k l1 true)) else (spec_StoryOk.j0 k l1 true)) = some r := H
    have A6 := Aside0.mk A60
    clear A60
    by_cases c7 : t148 = true
    · subst c7
      have H1 : (if (l1.length : Int) = a0_1 then (spec_StoryOk.j0 k l1 (decide ((l2.length : Int) > 4000))) else (spec_StoryOk.j0 k l1 true)) = some r := by rw [if_pos rfl] at H; exact H
      clear H
      have H := H1
      clear H1
      by_cases c8 : (l1.length : Int) = a0_1
      · rw [if_pos c8] at H
        have c8b0 : ((l1.length : Int) == a0_1) = true := beq_iff_eq.mpr c8
        have c8b1 : ((l1.length : Int) != a0_1) = false := bne_eq_false_iff_eq.mpr c8
        clear c8
        (first | rw [c8b0] | (simp only [i64_w, i32_w]; rw [c8b0]) | skip)
        have H' := Aside0.mk H
        clear H
        have hcz9_0 : w5.cell? ⟨gb147, 0, none⟩ = some (.int .i64 a0_0) := (blk_cell BK147.out 0).trans rfl
        have hcz9_1 : w5.cell? ⟨gb147, 1, none⟩ = some (.int .i64 a0_1) := (blk_cell BK147.out 1).trans rfl
        have hcz9_2 : w5.cell? ⟨gb147, 2, none⟩ = some (.int .i64 a0_2) := (blk_cell BK147.out 2).trans rfl
        have hfz9_0 := blk_frozen BK147.out 0
        have hfz9_1 := blk_frozen BK147.out 1
        have hfz9_2 := blk_frozen BK147.out 2
        go_wp2_with (first | ((with_reducible refine gate_callee (f := 27) rfl ?_); refine goesL_ (some 9) rfl rfl Try.func27 (by kernel_rfl) rfl #[.agg #[.int .i64 a0_0, .int .i64 a0_1, .int .i64 a0_2]] rfl (by (try simp only [List.map_toArray, List.map_cons, List.map_nil]); first | done | rfl | (simp only [List.length_drop, List.length_take]; rfl)) ?_; (with_reducible refine (spec_ConfigOk.calls a0_0 a0_1 a0_2 true _ A6.out).mono ?_); rintro e w10 ⟨rfl, hb⟩; refine ⟨_, rfl, ?_⟩; have n0_ := Aside0.mk (blk_below (g := gb147) (o := .cells #[.int .i64 a0_0, .int .i64 a0_1, .int .i64 a0_2] 39 (0, 0)) (by (with_reducible repeat (first | refine blk_drewN ?_ _ | refine blk_drew ?_ | refine blk_alloc ?_ _)); exact BK147.out) hb); have n1_ := Aside0.mk (below_step (by repeat (first | (with_reducible first | exact HB.out | apply below_alloc | apply pw_below_drewN | apply below_drew1 | refine below_set ?_ GE147.out) | exact HB.out)) hb); clear BK147; clear HB; have BK147 := n0_; have HB := n1_; clear n0_ n1_; (try clear hb); (try clear hb2); (try clear hk); (try clear hi); have hcz11_0 : w10.cell? ⟨gb147, 0, none⟩ = some (.int .i64 a0_0) := (blk_cell BK147.out 0).trans rfl; have hcz11_1 : w10.cell? ⟨gb147, 1, none⟩ = some (.int .i64 a0_1) := (blk_cell BK147.out 1).trans rfl; have hcz11_2 : w10.cell? ⟨gb147, 2, none⟩ = some (.int .i64 a0_2) := (blk_cell BK147.out 2).trans rfl; have hfz11_0 := blk_frozen BK147.out 0; have hfz11_1 := blk_frozen BK147.out 1; have hfz11_2 := blk_frozen BK147.out 2))
        go_meet
        case rel => exact ⟨_, (decide ((l2.length : Int) > 4000)), (by first | rfl | (simp; done) | (simp [*]; done)), H', ⟨by first | omega | exact Nat.le_refl _⟩, ⟨by (with_reducible repeat (first | refine blk_drewN ?_ _ | refine blk_drew ?_ | refine blk_alloc ?_ _)); exact BK147.out⟩, ⟨by repeat (first | (with_reducible first | exact HB.out | apply below_alloc | apply pw_below_drewN | apply below_drew1 | refine below_set ?_ GE147.out) | exact HB.out)⟩⟩
      · rw [if_neg c8] at H
        have c8b0 : ((l1.length : Int) == a0_1) = false := beq_eq_false_iff_ne.mpr c8
        have c8b1 : ((l1.length : Int) != a0_1) = true := bne_iff_ne.mpr c8
        (first | rw [c8b0] | (simp only [i64_w, i32_w]; rw [c8b0]) | skip)
        have H' := Aside0.mk H
        clear H
        have hcz12_0 : w5.cell? ⟨gb147, 0, none⟩ = some (.int .i64 a0_0) := (blk_cell BK147.out 0).trans rfl
        have hcz12_1 : w5.cell? ⟨gb147, 1, none⟩ = some (.int .i64 a0_1) := (blk_cell BK147.out 1).trans rfl
        have hcz12_2 : w5.cell? ⟨gb147, 2, none⟩ = some (.int .i64 a0_2) := (blk_cell BK147.out 2).trans rfl
        have hfz12_0 := blk_frozen BK147.out 0
        have hfz12_1 := blk_frozen BK147.out 1
        have hfz12_2 := blk_frozen BK147.out 2
        go_wp2_with (first | ((with_reducible refine gate_callee (f := 27) rfl ?_); refine goesL_ (some 9) rfl rfl Try.func27 (by kernel_rfl) rfl #[.agg #[.int .i64 a0_0, .int .i64 a0_1, .int .i64 a0_2]] rfl (by (try simp only [List.map_toArray, List.map_cons, List.map_nil]); first | done | rfl | (simp only [List.length_drop, List.length_take]; rfl)) ?_; (with_reducible refine (spec_ConfigOk.calls a0_0 a0_1 a0_2 true _ A6.out).mono ?_); rintro e w13 ⟨rfl, hb⟩; refine ⟨_, rfl, ?_⟩; have n0_ := Aside0.mk (blk_below (g := gb147) (o := .cells #[.int .i64 a0_0, .int .i64 a0_1, .int .i64 a0_2] 39 (0, 0)) (by (with_reducible repeat (first | refine blk_drewN ?_ _ | refine blk_drew ?_ | refine blk_alloc ?_ _)); exact BK147.out) hb); have n1_ := Aside0.mk (below_step (by repeat (first | (with_reducible first | exact HB.out | apply below_alloc | apply pw_below_drewN | apply below_drew1 | refine below_set ?_ GE147.out) | exact HB.out)) hb); clear BK147; clear HB; have BK147 := n0_; have HB := n1_; clear n0_ n1_; (try clear hb); (try clear hb2); (try clear hk); (try clear hi); have hcz14_0 : w13.cell? ⟨gb147, 0, none⟩ = some (.int .i64 a0_0) := (blk_cell BK147.out 0).trans rfl; have hcz14_1 : w13.cell? ⟨gb147, 1, none⟩ = some (.int .i64 a0_1) := (blk_cell BK147.out 1).trans rfl; have hcz14_2 : w13.cell? ⟨gb147, 2, none⟩ = some (.int .i64 a0_2) := (blk_cell BK147.out 2).trans rfl; have hfz14_0 := blk_frozen BK147.out 0; have hfz14_1 := blk_frozen BK147.out 1; have hfz14_2 := blk_frozen BK147.out 2))
        go_meet
        case rel => exact ⟨_, (true), (by first | rfl | (simp; done) | (simp [*]; done)), H', ⟨by first | omega | exact Nat.le_refl _⟩, ⟨by (with_reducible repeat (first | refine blk_drewN ?_ _ | refine blk_drew ?_ | refine blk_alloc ?_ _)); exact BK147.out⟩, ⟨by repeat (first | (with_reducible first | exact HB.out | apply below_alloc | apply pw_below_drewN | apply below_drew1 | refine below_set ?_ GE147.out) | exact HB.out)⟩⟩
    · replace c7 := Bool.eq_false_iff.mpr c7
      subst c7
      have H1 : (spec_StoryOk.j0 k l1 true) = some r := by rw [if_neg (show ¬ (false = true) by decide)] at H; exact H
      clear H
      have H := H1
      clear H1
      have H' := Aside0.mk H
      clear H
      have hcz15_0 : w5.cell? ⟨gb147, 0, none⟩ = some (.int .i64 a0_0) := (blk_cell BK147.out 0).trans rfl
      have hcz15_1 : w5.cell? ⟨gb147, 1, none⟩ = some (.int .i64 a0_1) := (blk_cell BK147.out 1).trans rfl
      have hcz15_2 : w5.cell? ⟨gb147, 2, none⟩ = some (.int .i64 a0_2) := (blk_cell BK147.out 2).trans rfl
      have hfz15_0 := blk_frozen BK147.out 0
      have hfz15_1 := blk_frozen BK147.out 1
      have hfz15_2 := blk_frozen BK147.out 2
      go_wp2_with (first | ((with_reducible refine gate_callee (f := 27) rfl ?_); refine goesL_ (some 9) rfl rfl Try.func27 (by kernel_rfl) rfl #[.agg #[.int .i64 a0_0, .int .i64 a0_1, .int .i64 a0_2]] rfl (by (try simp only [List.map_toArray, List.map_cons, List.map_nil]); first | done | rfl | (simp only [List.length_drop, List.length_take]; rfl)) ?_; (with_reducible refine (spec_ConfigOk.calls a0_0 a0_1 a0_2 false _ A6.out).mono ?_); rintro e w16 ⟨rfl, hb⟩; refine ⟨_, rfl, ?_⟩; have n0_ := Aside0.mk (blk_below (g := gb147) (o := .cells #[.int .i64 a0_0, .int .i64 a0_1, .int .i64 a0_2] 39 (0, 0)) (by (with_reducible repeat (first | refine blk_drewN ?_ _ | refine blk_drew ?_ | refine blk_alloc ?_ _)); exact BK147.out) hb); have n1_ := Aside0.mk (below_step (by repeat (first | (with_reducible first | exact HB.out | apply below_alloc | apply pw_below_drewN | apply below_drew1 | refine below_set ?_ GE147.out) | exact HB.out)) hb); clear BK147; clear HB; have BK147 := n0_; have HB := n1_; clear n0_ n1_; (try clear hb); (try clear hb2); (try clear hk); (try clear hi)))
      go_meet
      case rel => exact ⟨_, (true), (by first | rfl | (simp; done) | (simp [*]; done)), H', ⟨by first | omega | exact Nat.le_refl _⟩, ⟨by (with_reducible repeat (first | refine blk_drewN ?_ _ | refine blk_drew ?_ | refine blk_alloc ?_ _)); exact BK147.out⟩, ⟨by repeat (first | (with_reducible first | exact HB.out | apply below_alloc | apply pw_below_drewN | apply below_drew1 | refine below_set ?_ GE147.out) | exact HB.out)⟩⟩
  case rest =>
    clear HC4
    try clear c1
    try clear c2
    try clear p2
    try clear c7
    try clear c8
    try clear c8b0
    try clear c8b1
    try clear c11
    try clear hcz11_0
    try clear hcz11_1
    try clear hcz11_2
    try clear hcz12_0
    try clear hcz12_1
    try clear hcz12_2
    try clear hcz14_0
    try clear hcz14_1
    try clear hcz14_2
    try clear hcz15_0
    try clear hcz15_1
    try clear hcz15_2
    try clear hcz9_0
    try clear hcz9_1
    try clear hcz9_2
    try clear hfz11_0
    try clear hfz11_1
    try clear hfz11_2
    try clear hfz12_0
    try clear hfz12_1
    try clear hfz12_2
    try clear hfz14_0
    try clear hfz14_1
    try clear hfz14_2
    try clear hfz15_0
    try clear hfz15_1
    try clear hfz15_2
    try clear hfz9_0
    try clear hfz9_1
    try clear hfz9_2
    obtain ⟨kq, x22_3, rfl, HA, HJ3, BK147, HB⟩ := hcut
    cases kq with
    | zero => exact absurd HA.out (by simp [spec_StoryOk.j0])
    | succ kj3 =>
      have H := HA.out
      clear HA
      simp only [spec_StoryOk.j0] at H
      by_cases c17 : x22_3 = true
      · subst c17
        have H1 : (some false) = some r := by rw [if_pos rfl] at H; exact H
        clear H
        have H := H1
        clear H1
        obtain rfl := Option.some.inj H
        go_wp2
        go_ret
        exact ⟨by first | rfl | (simp [errW_none, errW_some] <;> rfl) | (simp [*, errW_none, errW_some] <;> rfl), by repeat (first | (with_reducible first | exact HB.out | apply below_alloc | apply pw_below_drewN | apply below_drew1 | refine below_set ?_ GE147.out) | exact HB.out)⟩
      · replace c17 := Bool.eq_false_iff.mpr c17
        subst c17
        have H1 : (spec_StoryOk.l0 kj3 l1 0) = some r := by rw [if_neg (show ¬ (false = true) by decide)] at H; exact H
        clear H
        have H := H1
        clear H1
        have H' := Aside0.mk H
        clear H
        go_wp2
        go_loopg [7] kj3 (fun kq v7 w' => ∃ (x7_2 : Int), v7 = .int .i64 x7_2 ∧ Aside0 (spec_StoryOk.l0 kq l1 x7_2 = some r) ∧ Aside0 (kq ≤ kj3) ∧ Aside0 (w'.heap[gb147]? = some (.cells #[.int .i64 a0_0, .int .i64 a0_1, .int .i64 a0_2] 39 (0, 0))) ∧ Aside0 (Below w.heap.size w w'))
        case atStart => exact ⟨(0), (by first | rfl | (simp; done) | (simp [*]; done)), H', ⟨Nat.le_refl _⟩, ⟨by (with_reducible repeat (first | refine blk_drewN ?_ _ | refine blk_drew ?_ | refine blk_alloc ?_ _)); exact BK147.out⟩, ⟨by repeat (first | (with_reducible first | exact HB.out | apply below_alloc | apply pw_below_drewN | apply below_drew1 | refine below_set ?_ GE147.out) | exact HB.out)⟩⟩
        case round =>
          clear H'
          try clear c1
          try clear c2
          try clear p2
          try clear c7
          try clear c8
          try clear c8b0
          try clear c8b1
          try clear c11
          try clear c17
          try clear hcz11_0
          try clear hcz11_1
          try clear hcz11_2
          try clear hcz12_0
          try clear hcz12_1
          try clear hcz12_2
          try clear hcz14_0
          try clear hcz14_1
          try clear hcz14_2
          try clear hcz15_0
          try clear hcz15_1
          try clear hcz15_2
          try clear hcz9_0
          try clear hcz9_1
          try clear hcz9_2
          try clear hfz11_0
          try clear hfz11_1
          try clear hfz11_2
          try clear hfz12_0
          try clear hfz12_1
          try clear hfz12_2
          try clear hfz14_0
          try clear hfz14_1
          try clear hfz14_2
          try clear hfz15_0
          try clear hfz15_1
          try clear hfz15_2
          try clear hfz9_0
          try clear hfz9_1
          try clear hfz9_2
          try clear p2
          obtain ⟨x7_2, rfl, HA, HK2, BK147, HB⟩ := hrel
          cases gk with
          | zero => exact absurd HA.out (by simp [spec_StoryOk.l0])
          | succ k2 =>
            have H := HA.out
            clear HA
            simp only [spec_StoryOk.l0] at H
            by_cases c18 : x7_2 < (l1.length : Int)
            · rw [if_pos c18] at H
              have c18b0 : decide (x7_2 < (l1.length : Int)) = true := decide_eq_true c18
              clear c18
              by_cases c19 : 0 ≤ x7_2
              · rw [if_pos c19] at H
                have c19b0 : decide (0 ≤ x7_2) = true := decide_eq_true c19
                clear c19
                by_cases c20 : ((rd_L6 l1 x7_2).length : Int) > 40
                · rw [if_pos c20] at H
                  have c20b0 : decide (40 < ((rd_L6 l1 x7_2).length : Int)) = true := decide_eq_true c20
                  have c20b1 : decide (40 < (rd_L6 l1 x7_2).length) = true := decide_eq_true (by omega)
                  clear c20
                  obtain rfl := Option.some.inj H
                  have p149 : 0 ≤ (x7_2 : Int) := of_decide_eq_true (by first | (with_reducible assumption) | assumption)
                  have q149 : x7_2 < (l1.length : Int) := of_decide_eq_true (by first | (with_reducible assumption) | assumption)
                  obtain ⟨ad149, A149_0, c149_0, e149, hx149_0, hl149_0, hi149_0⟩ := at_L6 HR1.out x7_2 p149 q149
                  cases e149
                  replace hx149_0 := (HB.out.cell (World.block_lt_of_cell? w _ hx149_0)).trans hx149_0
                  have HR149_0 := Aside0.mk hi149_0
                  have HC149_0 := Aside0.mk hl149_0
                  clear hi149_0 hl149_0
                  replace p149 := eq_true p149
                  replace q149 := eq_true q149
                  go_wp2
                  go_ret
                  exact ⟨by first | rfl | (simp [errW_none, errW_some] <;> rfl) | (simp [*, errW_none, errW_some] <;> rfl), by repeat (first | (with_reducible first | exact HB.out | apply below_alloc | apply pw_below_drewN | apply below_drew1 | refine below_set ?_ GE147.out) | exact HB.out)⟩
                · rw [if_neg c20] at H
                  have c20b0 : decide (40 < ((rd_L6 l1 x7_2).length : Int)) = false := decide_eq_false c20
                  have c20b1 : decide (40 < (rd_L6 l1 x7_2).length) = false := decide_eq_false (by omega)
                  clear c20
                  have H' := Aside0.mk H
                  clear H
                  have p149 : 0 ≤ (x7_2 : Int) := of_decide_eq_true (by first | (with_reducible assumption) | assumption)
                  have q149 : x7_2 < (l1.length : Int) := of_decide_eq_true (by first | (with_reducible assumption) | assumption)
                  obtain ⟨ad149, A149_0, c149_0, e149, hx149_0, hl149_0, hi149_0⟩ := at_L6 HR1.out x7_2 p149 q149
                  cases e149
                  replace hx149_0 := (HB.out.cell (World.block_lt_of_cell? w _ hx149_0)).trans hx149_0
                  have HR149_0 := Aside0.mk hi149_0
                  have HC149_0 := Aside0.mk hl149_0
                  clear hi149_0 hl149_0
                  replace p149 := eq_true p149
                  replace q149 := eq_true q149
                  go_wp2
                  go_roundg k2
                  case measure => have := HJ3.out; have := HK2.out; omega
                  case rel => exact ⟨(wrap64 (x7_2 + 1)), (by first | rfl | (simp; done) | (simp [*]; done)), H', ⟨by have := HJ3.out; have := HK2.out; omega⟩, ⟨by (with_reducible repeat (first | refine blk_drewN ?_ _ | refine blk_drew ?_ | refine blk_alloc ?_ _)); exact BK147.out⟩, ⟨by repeat (first | (with_reducible first | exact HB.out | apply below_alloc | apply pw_below_drewN | apply below_drew1 | refine below_set ?_ GE147.out) | exact HB.out)⟩⟩
              · rw [if_neg c19] at H
                exact absurd H (by simp)
            · rw [if_neg c18] at H
              have c18b0 : decide (x7_2 < (l1.length : Int)) = false := decide_eq_false c18
              clear c18
              obtain rfl := Option.some.inj H
              go_wp2
              go_ret
              exact ⟨by first | rfl | (simp [errW_none, errW_some] <;> rfl) | (simp [*, errW_none, errW_some] <;> rfl), by repeat (first | (with_reducible first | exact HB.out | apply below_alloc | apply pw_below_drewN | apply below_drew1 | refine below_set ?_ GE147.out) | exact HB.out)⟩

/-! ### spec_HistOk: function 19 -/
def histB9 (L : List (List S28)) (nx bz : List Int) (n : Int) (x : S69) : Prop := x.f0 < 0 ∨ x.f0 ≥ n ∨ x.f1 ≠ rd nx x.f0 ∨ x.f1 ≥ ((rd_L6 L x.f0).length : Int) ∨ rd bz x.f0 < 0
def histB11 (C : List S69) (bz : List Int) (z : Int) (x : S69) : Prop := x.f2 < rd bz x.f0 ∨ (z > 0 ∧ (rd_T69 C (z - 1)).f2 ≥ x.f2) ∨ (x.f3 ≥ 0 ∧ x.f3 < x.f2) ∨ x.f3 < -1
def histB13 (x : S69) : Prop := x.f3 < 0 ∧ (x.f4 ≠ 0 ∨ x.f5 ≠ 0)
instance (L : List (List S28)) (nx bz : List Int) (n : Int) (x : S69) : Decidable (histB9 L nx bz n x) := by unfold histB9; infer_instance
instance (C : List S69) (bz : List Int) (z : Int) (x : S69) : Decidable (histB11 C bz z x) := by unfold histB11; infer_instance
instance (x : S69) : Decidable (histB13 x) := by unfold histB13; infer_instance
def spec_HistOk.go (L : List (List S28)) (C : List S69) (n : Int) : Nat → Int → List Int → List Int → Bool
  | 0, _, _, _ => true
  | d + 1, z, nx, bz => if histB9 L nx bz n (rd_T69 C z) then false else if histB11 C bz z (rd_T69 C z) then false else if histB13 (rd_T69 C z) then false else
      spec_HistOk.go L C n d (z + 1) (nx.set (rd_T69 C z).f0.toNat (wrap64 ((rd_T69 C z).f1 + 1))) (bz.set (rd_T69 C z).f0.toNat (if (rd_T69 C z).f3 ≥ 0 then wrap64 ((rd_T69 C z).f3 + 1) else (rd_T69 C z).f3))
def spec_HistOk.f (k : Nat) (a n c : Int) (L : List (List S28)) (C : List S69) : Option Bool := (spec_StoryOk.f k a n c L []).bind fun t => if t = true then (if (1 ≤ n ∧ n ≤ 3) ∧ (L.length : Int) = n ∧ C.length ≤ 1048576 then some (spec_HistOk.go L C n C.length 0 (List.replicate n.toNat 0) (List.replicate n.toNat 0)) else none) else some false
theorem spec_HistOk.mono : ∀ a0 a1 a2 a3 a4 k, LeO (spec_HistOk.f k a0 a1 a2 a3 a4) (spec_HistOk.f (k + 1) a0 a1 a2 a3 a4) := fun a0 a1 a2 a3 a4 k => LeO.bind (spec_StoryOk.mono a0 a1 a2 a3 [] k) (fun _ => LeO.refl _)
structure HS (w0 W : World) (bc gn gb : Nat) (a n c : Int) (nx bz : List Int) : Prop where
  below : Below w0.heap.size w0 W
  kc : W.heap[bc]? = some (.cells #[.int .i64 a, .int .i64 n, .int .i64 c] 39 (0, 0))
  kn : W.heap[gn]? = some (.cells (nx.map (Value.int .i64)).toArray 3 (0, 0))
  kb : W.heap[gb]? = some (.cells (bz.map (Value.int .i64)).toArray 3 (0, 0))
  ln : (nx.length : Int) = n
  lb : (bz.length : Int) = n
  ne : gn ≠ gb
  nn : w0.heap.size ≤ gn
  nb : w0.heap.size ≤ gb
theorem HS.alloc {w0 W : World} {bc gn gb : Nat} {a n c : Int} {nx bz : List Int} (h : HS w0 W bc gn gb a n c nx bz) (o : Obj) : HS w0 (W.alloc o) bc gn gb a n c nx bz :=
  ⟨below_alloc h.below o, blk_alloc h.kc o, blk_alloc h.kn o, blk_alloc h.kb o, h.ln, h.lb, h.ne, h.nn, h.nb⟩
theorem HS.drewN {w0 W : World} {bc gn gb : Nat} {a n c : Int} {nx bz : List Int} (h : HS w0 W bc gn gb a n c nx bz) (m : Nat) : HS w0 (W.drewN m) bc gn gb a n c nx bz :=
  ⟨pw_below_drewN h.below m, blk_drewN h.kc m, blk_drewN h.kn m, blk_drewN h.kb m, h.ln, h.lb, h.ne, h.nn, h.nb⟩
theorem ints_set (l : List Int) (j : Nat) (v : Int) : ((l.map (Value.int .i64)).toArray.setIfInBounds j (.int .i64 v)) = ((l.set j v).map (Value.int .i64)).toArray := by
  simp [List.map_set]
theorem HS.setn {w0 W : World} {bc gn gb : Nat} {a n c : Int} {nx bz : List Int} (h : HS w0 W bc gn gb a n c nx bz) (j : Nat) (v : Int) : HS w0 (W.setCell ⟨gn, j, none⟩ (.int .i64 v)) bc gn gb a n c (nx.set j v) bz :=
  ⟨below_set h.below h.nn, blk_far h.kc (p := ⟨gn, j, none⟩) (blk_ne h.kc h.kn (by decide)) _, blk_put h.kn j _ (ints_set nx j v), blk_far h.kb (p := ⟨gn, j, none⟩) (fun e => h.ne e.symm) _, by rw [List.length_set]; exact h.ln, h.lb, h.ne, h.nn, h.nb⟩
theorem HS.setb {w0 W : World} {bc gn gb : Nat} {a n c : Int} {nx bz : List Int} (h : HS w0 W bc gn gb a n c nx bz) (j : Nat) (v : Int) : HS w0 (W.setCell ⟨gb, j, none⟩ (.int .i64 v)) bc gn gb a n c nx (bz.set j v) :=
  ⟨below_set h.below h.nb, blk_far h.kc (p := ⟨gb, j, none⟩) (blk_ne h.kc h.kb (by decide)) _, blk_far h.kn (p := ⟨gb, j, none⟩) h.ne _, blk_put h.kb j _ (ints_set bz j v), h.ln, by rw [List.length_set]; exact h.lb, h.ne, h.nn, h.nb⟩
theorem ints_cell {W : World} {g : Nat} {l : List Int} (h : W.heap[g]? = some (.cells (l.map (Value.int .i64)).toArray 3 (0, 0))) (z : Int) (h0 : 0 ≤ z) (h1 : z < (l.length : Int)) : W.cell? ⟨g, z.toNat, none⟩ = some (.int .i64 (rd l z)) := by
  refine (blk_cell h z.toNat).trans ?_
  have hz : z.toNat < l.length := by omega
  simp [rd, List.getD, hz]
theorem make_1 : ∀ (W : World), (Instr.makeSlice 36 (.int .i64 1) (.int .i64 1)).run Try.prog W = .ok (.slice (some ⟨W.heap.size, 0, none⟩) 1 1) (W.alloc (.cells #[.int .i64 0] 3)) := fun _ => by kernel_rfl
theorem make_2 : ∀ (W : World), (Instr.makeSlice 36 (.int .i64 2) (.int .i64 2)).run Try.prog W = .ok (.slice (some ⟨W.heap.size, 0, none⟩) 2 2) (W.alloc (.cells #[.int .i64 0, .int .i64 0] 3)) := fun _ => by kernel_rfl
theorem make_3 : ∀ (W : World), (Instr.makeSlice 36 (.int .i64 3) (.int .i64 3)).run Try.prog W = .ok (.slice (some ⟨W.heap.size, 0, none⟩) 3 3) (W.alloc (.cells #[.int .i64 0, .int .i64 0, .int .i64 0] 3)) := fun _ => by kernel_rfl
theorem make_n (n : Nat) (h : n = 1 ∨ n = 2 ∨ n = 3) : ∀ (W : World), (Instr.makeSlice 36 (.int .i64 (n : Int)) (.int .i64 (n : Int))).run Try.prog W = .ok (.slice (some ⟨W.heap.size, 0, none⟩) n n) (W.alloc (.cells ((List.replicate n (0 : Int)).map (Value.int .i64)).toArray 3)) := by
  rcases h with rfl | rfl | rfl
  · exact make_1
  · exact make_2
  · exact make_3
theorem hs_start {w0 w2 : World} {bc n : Nat} {a c : Int} {zs : Array Value} (hz : zs = ((List.replicate n (0 : Int)).map (Value.int .i64)).toArray) (hb : Below w0.heap.size w0 w2) (kc : w2.heap[bc]? = some (.cells #[.int .i64 a, .int .i64 (n : Int), .int .i64 c] 39 (0, 0))) : HS w0 ((w2.alloc (.cells zs 3)).alloc (.cells zs 3)) bc w2.heap.size (w2.heap.size + 1) a (n : Int) c (List.replicate n 0) (List.replicate n 0) := by
  subst hz
  have h0 := hb.size
  refine ⟨below_alloc (below_alloc hb _) _, blk_alloc (blk_alloc kc _) _, blk_alloc (blk_new w2 _) _, ?_, by simp, by simp, by omega, h0, by omega⟩
  have h := blk_new (w2.alloc (.cells ((List.replicate n (0 : Int)).map (Value.int .i64)).toArray 3)) (.cells ((List.replicate n (0 : Int)).map (Value.int .i64)).toArray 3)
  rwa [World.size_alloc] at h

set_option maxHeartbeats 16000000 in
set_option maxRecDepth 100000 in
theorem spec_HistOk.calls (k : Nat) (a n c : Int) (A1 : Option Addr) (c1 : Nat) (l1 : List (List S28)) (A2 : Option Addr) (c2 : Nat) (l2 : List S69) (r : Bool) (w : World) (hr1 : Kd.C (Kd.slice 28 k28) w A1 l1.length l1) (hc1 : l1.length ≤ c1) (hr2 : Kd.C k69 w A2 l2.length l2) (hc2 : l2.length ≤ c2) (h : spec_HistOk.f k a n c l1 l2 = some r) :
    Calls Try.prog 19 #[.agg #[.int .i64 a, .int .i64 n, .int .i64 c], .slice A1 l1.length c1, .slice A2 l2.length c2] w fun e w' => e = .returned (.bool r) ∧ Below w.heap.size w w' := by
  obtain ⟨t, FS, h⟩ := Option.bind_eq_some_iff.1 h
  obtain ⟨w1, hw1⟩ : ∃ w1, w1 = w.alloc (.cells #[.int .i64 a, .int .i64 n, .int .i64 c] 39) := ⟨_, rfl⟩
  have hb1 : Below w.heap.size w w1 := by rw [hw1]; exact below_alloc (Below.refl _ _) _
  have k1 : w1.heap[w.heap.size]? = some (.cells #[.int .i64 a, .int .i64 n, .int .i64 c] 39 (0, 0)) := by rw [hw1]; exact blk_new w _
  have cs := spec_StoryOk.calls k a n c A1 c1 l1 none 0 [] t w1 (Kd.C_below hr1 hb1) hc1 (Kd.C_nil _ _) (Nat.le_refl _) FS
  have HB1 := Aside0.mk hb1
  have K1 := Aside0.mk k1
  have HR1 := Aside0.mk hr1
  have HR2 := Aside0.mk hr2
  clear hb1 k1 hr1 hr2 FS
  by_cases ht : t = true
  · subst ht
    rw [if_pos rfl] at h
    by_cases hn : (1 ≤ n ∧ n ≤ 3) ∧ (l1.length : Int) = n ∧ l2.length ≤ 1048576
    · rw [if_pos hn] at h
      obtain ⟨hn1, hn2, hn3⟩ := hn
      obtain ⟨n, rfl⟩ : ∃ m : Nat, n = (m : Int) := ⟨n.toNat, by omega⟩
      rw [Int.toNat_natCast] at h
      obtain ⟨zs, hzs⟩ : ∃ zs : Array Value, zs = ((List.replicate n (0 : Int)).map (Value.int .i64)).toArray := ⟨_, rfl⟩
      have hmk := make_n n (by omega)
      rw [← hzs] at hmk
      have HZ := Aside0.mk hzs
      clear hzs
      have GO := Aside0.mk (Option.some.inj h)
      have HN := Aside0.mk (And.intro hn1 (And.intro hn2 hn3))
      clear h hn1 hn2 hn3
      go_enter Try.func19, Try.ntmps19
      go_wp2_with (go_at_call 11; rw [← hw1]; refine cs.mono ?_; rintro e w2 ⟨rfl, hb2⟩; have B2 := Aside0.mk (below_step HB1.out hb2); have kc := blk_below K1.out hb2; have q1 := (blk_cell kc 1).trans (show _ = some (Value.int .i64 (n : Int)) from rfl); have q2 : (w2.alloc (.cells zs 3)).cell? ⟨w.heap.size, 1, none⟩ = some (.int .i64 (n : Int)) := (blk_cell (blk_alloc kc _) 1).trans rfl; have HS0 := Aside0.mk (hs_start HZ.out B2.out kc); clear cs hb2 kc)
      go_loopg [9] l2.length (fun gg v9 wr => ∃ (z : Int) (i d : Nat) (nx bz : List Int), d ≤ gg ∧ v9 = .int .i64 z ∧ Aside0 (i + d = l2.length ∧ z = (i : Int)) ∧ Aside0 (HS w wr w.heap.size w2.heap.size (w2.heap.size + 1) a (n : Int) c nx bz) ∧ Aside0 (spec_HistOk.go l1 l2 (n : Int) d z nx bz = r))
      case atStart => exact ⟨0, 0, l2.length, _, _, Nat.le_refl _, rfl, ⟨by simp⟩, HS0, GO⟩
      case round =>
        clear HS0 GO q1 q2 hmk
        obtain ⟨z, i, d, nx, bz, hg, rfl, HI, HQ, HG⟩ := hrel
        cases d with
        | zero =>
          have cz : decide (z < (l2.length : Int)) = false := decide_eq_false (by have := HI.out; omega)
          obtain rfl : true = r := HG.out
          go_wp2
          go_ret
          exact ⟨rfl, HQ.out.below⟩
        | succ d =>
          have cz : decide (z < (l2.length : Int)) = true := decide_eq_true (by have := HI.out; omega)
          have z0 : 0 ≤ z := by have := HI.out; omega
          have z1 : z < (l2.length : Int) := by have := HI.out; omega
          have cz0 : decide (0 ≤ z) = true := decide_eq_true z0
          obtain ⟨ad, ead, hx0, hx1, hx2, hx3, hx4, hx5⟩ := at_T69 HR2.out z z0 z1
          subst ead
          have PV := Aside0.mk (fun (h : z > 0) => at_T69 HR2.out (z - 1) (by omega) (by omega))
          replace hx0 := (HQ.out.below.cell (World.block_lt_of_cell? w _ hx0)).trans hx0
          replace hx1 := (HQ.out.below.cell (World.block_lt_of_cell? w _ hx1)).trans hx1
          replace hx2 := (HQ.out.below.cell (World.block_lt_of_cell? w _ hx2)).trans hx2
          replace hx3 := (HQ.out.below.cell (World.block_lt_of_cell? w _ hx3)).trans hx3
          replace hx4 := (HQ.out.below.cell (World.block_lt_of_cell? w _ hx4)).trans hx4
          replace hx5 := (HQ.out.below.cell (World.block_lt_of_cell? w _ hx5)).trans hx5
          have ZZ := Aside0.mk (And.intro z0 z1)
          replace z0 := eq_true z0
          replace z1 := eq_true z1
          generalize hX : rd_T69 l2 z = x at hx0 hx1 hx2 hx3 hx4 hx5
          have HX := Aside0.mk hX
          have HG2 := Aside0.mk (HG.out)
          clear HG hX
          go_upto_region 9 with (fail)
          obtain ⟨w3, hw3⟩ : ∃ w3, w3 = wr.alloc (.cells #[.int .i64 x.f0, .int .i64 x.f1, .int .i64 x.f2, .int .i64 x.f3, .int .i64 x.f4, .int .i64 x.f5] 69) := ⟨_, rfl⟩
          have HS3 := Aside0.mk (show HS w w3 w.heap.size w2.heap.size (w2.heap.size + 1) a (n : Int) c nx bz from by rw [hw3]; exact HQ.out.alloc _)
          have BX := Aside0.mk (show w3.heap[wr.heap.size]? = some (.cells #[.int .i64 x.f0, .int .i64 x.f1, .int .i64 x.f2, .int .i64 x.f3, .int .i64 x.f4, .int .i64 x.f5] 69 (0, 0)) from by rw [hw3]; exact blk_new wr _)
          rw [← hw3]
          generalize wr.heap.size = gx at BX ⊢
          clear HQ hw3 hx0 hx1 hx2 hx3 hx4 hx5
          have e0 := (blk_cell BX.out 0).trans (show _ = some (Value.int .i64 x.f0) from rfl)
          have e1 := (blk_cell BX.out 1).trans (show _ = some (Value.int .i64 x.f1) from rfl)
          have e2 := (blk_cell BX.out 2).trans (show _ = some (Value.int .i64 x.f2) from rfl)
          have e3 := (blk_cell BX.out 3).trans (show _ = some (Value.int .i64 x.f3) from rfl)
          have e4 := (blk_cell BX.out 4).trans (show _ = some (Value.int .i64 x.f4) from rfl)
          have e5 := (blk_cell BX.out 5).trans (show _ = some (Value.int .i64 x.f5) from rfl)
          have g1 := (blk_cell HS3.out.kc 1).trans (show _ = some (Value.int .i64 (n : Int)) from rfl)
          go_cut [69] (fun v69 wc => v69 = .bool (decide (histB9 l1 nx bz (n : Int) x)) ∧ Aside0 (∃ m, wc = w3.drewN m))
          case first =>
            clear HG2 PV ZZ HI HX
            by_cases c0 : x.f0 < 0
            · have b0 := decide_eq_true c0
              go_quiet (fail)
              try go_wp2
              go_meet
              case rel => exact ⟨congrArg Value.bool (decide_eq_true (Or.inl c0)).symm, ⟨_, rfl⟩⟩
            have b0 : decide (x.f0 < 0) = false := decide_eq_false c0
            by_cases c1 : x.f0 ≥ (n : Int)
            · have b1 : decide ((n : Int) ≤ x.f0) = true := decide_eq_true c1
              go_quiet (fail)
              try go_wp2
              go_meet
              case rel => exact ⟨congrArg Value.bool (decide_eq_true (Or.inr (Or.inl c1))).symm, ⟨_, rfl⟩⟩
            have b1 : decide ((n : Int) ≤ x.f0) = false := decide_eq_false c1
            have i0 : 0 ≤ x.f0 := by omega
            have i1 : x.f0 < (n : Int) := by omega
            have n1 := ints_cell HS3.out.kn x.f0 i0 (by rw [HS3.out.ln]; exact i1)
            have n2 := ints_cell HS3.out.kb x.f0 i0 (by rw [HS3.out.lb]; exact i1)
            obtain ⟨al, L0, lc, eal, hl0, hll, _⟩ := at_L6 HR1.out x.f0 i0 (by rw [HN.out.2.1]; exact i1)
            subst eal
            replace hl0 := (HS3.out.below.cell (World.block_lt_of_cell? w _ hl0)).trans hl0
            have il : x.f0 < (l1.length : Int) := by rw [HN.out.2.1]; exact i1
            have di0 : decide (0 ≤ x.f0) = true := decide_eq_true i0
            have di1 : decide (x.f0 < (n : Int)) = true := decide_eq_true i1
            have dil : decide (x.f0 < (l1.length : Int)) = true := decide_eq_true il
            replace i0 := eq_true i0
            replace i1 := eq_true i1
            replace il := eq_true il
            by_cases c2 : x.f1 = rd nx x.f0
            · have b2 : (x.f1 != rd nx x.f0) = false := bne_eq_false_iff_eq.mpr c2
              have b2' : (x.f1 == rd nx x.f0) = true := beq_iff_eq.mpr c2
              have A2 := Aside0.mk c2
              clear c2
              by_cases c3 : x.f1 ≥ ((rd_L6 l1 x.f0).length : Int)
              · have b3 : decide (((rd_L6 l1 x.f0).length : Int) ≤ x.f1) = true := decide_eq_true c3
                go_quiet (fail)
                try go_wp2
                go_meet
                case rel => exact ⟨congrArg Value.bool (decide_eq_true (Or.inr (Or.inr (Or.inr (Or.inl c3))))).symm, ⟨_, rfl⟩⟩
              have b3 : decide (((rd_L6 l1 x.f0).length : Int) ≤ x.f1) = false := decide_eq_false c3
              by_cases c4 : rd bz x.f0 < 0
              · have b4 := decide_eq_true c4
                go_quiet (fail)
                try go_wp2
                go_meet
                case rel => exact ⟨congrArg Value.bool (decide_eq_true (Or.inr (Or.inr (Or.inr (Or.inr c4))))).symm, ⟨_, rfl⟩⟩
              · have FIN := Aside0.mk (decide_eq_false (fun g : histB9 l1 nx bz (n : Int) x => g.elim c0 (fun g => g.elim c1 (fun g => g.elim (fun g => g A2.out) (fun g => g.elim c3 c4)))))
                have b4 : decide (rd bz x.f0 < 0) = false := decide_eq_false c4
                go_quiet (fail)
                try go_wp2
                go_meet
                case rel => exact ⟨congrArg Value.bool (FIN.out).symm, ⟨_, rfl⟩⟩
            · have b2 : (x.f1 != rd nx x.f0) = true := bne_iff_ne.mpr c2
              have b2' : (x.f1 == rd nx x.f0) = false := beq_eq_false_iff_ne.mpr c2
              go_quiet (fail)
              try go_wp2
              go_meet
              case rel => exact ⟨congrArg Value.bool (decide_eq_true (Or.inr (Or.inr (Or.inl c2)))).symm, ⟨_, rfl⟩⟩
          case rest =>
            obtain ⟨rfl, HW⟩ := hcut
            obtain ⟨m, hwc⟩ := HW.out
            have HS4 := Aside0.mk (show HS w wc w.heap.size w2.heap.size (w2.heap.size + 1) a (n : Int) c nx bz from by rw [hwc]; exact HS3.out.drewN m)
            have BX4 := Aside0.mk (show wc.heap[gx]? = some (.cells #[.int .i64 x.f0, .int .i64 x.f1, .int .i64 x.f2, .int .i64 x.f3, .int .i64 x.f4, .int .i64 x.f5] 69 (0, 0)) from by rw [hwc]; exact blk_drewN BX.out m)
            clear HW hwc HS3 BX e0 e1 e2 e3 e4 e5 g1
            by_cases B9 : histB9 l1 nx bz (n : Int) x
            · have b9 := decide_eq_true B9
              obtain rfl : false = r := by have h_ := HG2.out; rw [spec_HistOk.go, HX.out, if_pos B9] at h_; exact h_
              go_wp2
              go_ret
              exact ⟨rfl, HS4.out.below⟩
            have b9 := decide_eq_false B9
            have F0 := Aside0.mk (show 0 ≤ x.f0 ∧ x.f0 < (n : Int) from ⟨Int.not_lt.1 (fun g => B9 (Or.inl g)), Int.not_le.1 (fun g => B9 (Or.inr (Or.inl g)))⟩)
            have N9 := Aside0.mk B9
            go_upto_region 11 with (fail)
            clear b9 B9
            have e0 := (blk_cell BX4.out 0).trans (show _ = some (Value.int .i64 x.f0) from rfl)
            have e1 := (blk_cell BX4.out 1).trans (show _ = some (Value.int .i64 x.f1) from rfl)
            have e2 := (blk_cell BX4.out 2).trans (show _ = some (Value.int .i64 x.f2) from rfl)
            have e3 := (blk_cell BX4.out 3).trans (show _ = some (Value.int .i64 x.f3) from rfl)
            have e4 := (blk_cell BX4.out 4).trans (show _ = some (Value.int .i64 x.f4) from rfl)
            have e5 := (blk_cell BX4.out 5).trans (show _ = some (Value.int .i64 x.f5) from rfl)
            have n2 := ints_cell HS4.out.kb x.f0 F0.out.1 (by rw [HS4.out.lb]; exact F0.out.2)
            have di0 : decide (0 ≤ x.f0) = true := decide_eq_true F0.out.1
            have di1 : decide (x.f0 < (n : Int)) = true := decide_eq_true F0.out.2
            have i0 := eq_true F0.out.1
            have i1 := eq_true F0.out.2
            go_cut [109] (fun v109 wd => v109 = .bool (decide (histB11 l2 bz z x)) ∧ Aside0 (∃ m, wd = wc.drewN m))
            case first =>
              clear HG2 HI HX N9
              by_cases c0 : x.f2 < rd bz x.f0
              · have b0 := decide_eq_true c0
                go_quiet (fail)
                try go_wp2
                go_meet
                case rel => exact ⟨congrArg Value.bool (decide_eq_true (Or.inl c0)).symm, ⟨_, rfl⟩⟩
              have b0 := decide_eq_false c0
              have N0 := Aside0.mk c0
              clear c0
              by_cases cz2 : z > 0
              · obtain ⟨ap, eap, p0, p1, p2, p3, p4, p5⟩ := PV.out cz2
                cases eap
                clear p0 p1 p3 p4 p5
                obtain ⟨y, hy⟩ : ∃ y, y = z - 1 := ⟨_, rfl⟩
                have hwr : wrap64 (z - 1) = y := by rw [hy]; have := ZZ.out; have := HN.out.2.2; unfold wrap64; omega
                have HY := Aside0.mk hy
                rw [← hy] at p2
                have y0 : 0 ≤ y := by omega
                have y1 : y < (l2.length : Int) := by have := ZZ.out; omega
                replace p2 := (HS4.out.below.cell (World.block_lt_of_cell? w _ p2)).trans p2
                have bz2 : decide (0 < z) = true := decide_eq_true cz2
                have AZ := Aside0.mk cz2
                clear cz2 hy
                have dy0 : decide (0 ≤ y) = true := decide_eq_true y0
                have dy1 : decide (y < (l2.length : Int)) = true := decide_eq_true y1
                replace y0 := eq_true y0
                replace y1 := eq_true y1
                by_cases c1 : (rd_T69 l2 y).f2 ≥ x.f2
                · have b1 : decide (x.f2 ≤ (rd_T69 l2 y).f2) = true := decide_eq_true c1
                  have FIN := Aside0.mk (decide_eq_true (show histB11 l2 bz z x from Or.inr (Or.inl ⟨AZ.out, by rw [← HY.out]; exact c1⟩)))
                  clear c1
                  go_quiet (fail)
                  try go_wp2
                  go_meet
                  case rel => exact ⟨congrArg Value.bool (FIN.out).symm, ⟨_, rfl⟩⟩
                have b1 : decide (x.f2 ≤ (rd_T69 l2 y).f2) = false := decide_eq_false c1
                have N1 := Aside0.mk c1
                clear c1
                by_cases c3 : x.f3 ≥ 0
                · have b3 : decide (0 ≤ x.f3) = true := decide_eq_true c3
                  have b5 : decide (x.f3 < -1) = false := decide_eq_false (by omega)
                  have A3 := Aside0.mk c3
                  clear c3
                  by_cases c4 : x.f3 < x.f2
                  · have b4 := decide_eq_true c4
                    go_quiet (fail)
                    try go_wp2
                    go_meet
                    case rel => exact ⟨congrArg Value.bool (decide_eq_true (Or.inr (Or.inr (Or.inl ⟨A3.out, c4⟩)))).symm, ⟨_, rfl⟩⟩
                  · have b4 := decide_eq_false c4
                    have FIN := Aside0.mk (decide_eq_false (fun g : histB11 l2 bz z x => g.elim N0.out (fun g => g.elim (fun g => N1.out (by rw [HY.out]; exact g.2)) (fun g => g.elim (fun g => c4 g.2) (fun g => by have := A3.out; omega)))))
                    clear c4
                    go_quiet (fail)
                    try go_wp2
                    go_meet
                    case rel => exact ⟨congrArg Value.bool (FIN.out).symm, ⟨_, rfl⟩⟩
                · have b3 : decide (0 ≤ x.f3) = false := decide_eq_false c3
                  have A3 := Aside0.mk c3
                  clear c3
                  by_cases c5 : x.f3 < -1
                  · have b5 := decide_eq_true c5
                    go_quiet (fail)
                    try go_wp2
                    go_meet
                    case rel => exact ⟨congrArg Value.bool (decide_eq_true (Or.inr (Or.inr (Or.inr c5)))).symm, ⟨_, rfl⟩⟩
                  · have b5 := decide_eq_false c5
                    have FIN := Aside0.mk (decide_eq_false (fun g : histB11 l2 bz z x => g.elim N0.out (fun g => g.elim (fun g => N1.out (by rw [HY.out]; exact g.2)) (fun g => g.elim (fun g => A3.out g.1) c5))))
                    clear c5
                    go_quiet (fail)
                    try go_wp2
                    go_meet
                    case rel => exact ⟨congrArg Value.bool (FIN.out).symm, ⟨_, rfl⟩⟩
              · have bz2 : decide (0 < z) = false := decide_eq_false cz2
                have NZ := Aside0.mk cz2
                clear cz2
                by_cases c3 : x.f3 ≥ 0
                · have b3 : decide (0 ≤ x.f3) = true := decide_eq_true c3
                  have b5 : decide (x.f3 < -1) = false := decide_eq_false (by omega)
                  have A3 := Aside0.mk c3
                  clear c3
                  by_cases c4 : x.f3 < x.f2
                  · have b4 := decide_eq_true c4
                    go_quiet (fail)
                    try go_wp2
                    go_meet
                    case rel => exact ⟨congrArg Value.bool (decide_eq_true (Or.inr (Or.inr (Or.inl ⟨A3.out, c4⟩)))).symm, ⟨_, rfl⟩⟩
                  · have b4 := decide_eq_false c4
                    have FIN := Aside0.mk (decide_eq_false (fun g : histB11 l2 bz z x => g.elim N0.out (fun g => g.elim (fun g => NZ.out g.1) (fun g => g.elim (fun g => c4 g.2) (fun g => by have := A3.out; omega)))))
                    clear c4
                    go_quiet (fail)
                    try go_wp2
                    go_meet
                    case rel => exact ⟨congrArg Value.bool (FIN.out).symm, ⟨_, rfl⟩⟩
                · have b3 : decide (0 ≤ x.f3) = false := decide_eq_false c3
                  have A3 := Aside0.mk c3
                  clear c3
                  by_cases c5 : x.f3 < -1
                  · have b5 := decide_eq_true c5
                    go_quiet (fail)
                    try go_wp2
                    go_meet
                    case rel => exact ⟨congrArg Value.bool (decide_eq_true (Or.inr (Or.inr (Or.inr c5)))).symm, ⟨_, rfl⟩⟩
                  · have b5 := decide_eq_false c5
                    have FIN := Aside0.mk (decide_eq_false (fun g : histB11 l2 bz z x => g.elim N0.out (fun g => g.elim (fun g => NZ.out g.1) (fun g => g.elim (fun g => A3.out g.1) c5))))
                    clear c5
                    go_quiet (fail)
                    try go_wp2
                    go_meet
                    case rel => exact ⟨congrArg Value.bool (FIN.out).symm, ⟨_, rfl⟩⟩
            case rest =>
              obtain ⟨rfl, HW⟩ := hcut
              obtain ⟨m2, hwd⟩ := HW.out
              have HS5 := Aside0.mk (show HS w wc w.heap.size w2.heap.size (w2.heap.size + 1) a (n : Int) c nx bz from by rw [hwd]; exact HS4.out.drewN m2)
              have BX5 := Aside0.mk (show wc.heap[gx]? = some (.cells #[.int .i64 x.f0, .int .i64 x.f1, .int .i64 x.f2, .int .i64 x.f3, .int .i64 x.f4, .int .i64 x.f5] 69 (0, 0)) from by rw [hwd]; exact blk_drewN BX4.out m2)
              clear HW hwd HS4 BX4 e0 e1 e2 e3 e4 e5 n2 PV
              by_cases B11 : histB11 l2 bz z x
              · have b11 := decide_eq_true B11
                obtain rfl : false = r := by have h_ := HG2.out; rw [spec_HistOk.go, HX.out, if_neg N9.out, if_pos B11] at h_; exact h_
                go_wp2
                go_ret
                exact ⟨rfl, HS5.out.below⟩
              have b11 := decide_eq_false B11
              have N11 := Aside0.mk B11
              have e0 := (blk_cell BX5.out 0).trans (show _ = some (Value.int .i64 x.f0) from rfl)
              have e1 := (blk_cell BX5.out 1).trans (show _ = some (Value.int .i64 x.f1) from rfl)
              have e2 := (blk_cell BX5.out 2).trans (show _ = some (Value.int .i64 x.f2) from rfl)
              have e3 := (blk_cell BX5.out 3).trans (show _ = some (Value.int .i64 x.f3) from rfl)
              have e4 := (blk_cell BX5.out 4).trans (show _ = some (Value.int .i64 x.f4) from rfl)
              have e5 := (blk_cell BX5.out 5).trans (show _ = some (Value.int .i64 x.f5) from rfl)
              have n1 := ints_cell HS5.out.kn x.f0 F0.out.1 (by rw [HS5.out.ln]; exact F0.out.2)
              have fz := blk_frozen HS5.out.kn x.f0.toNat
              by_cases c3 : x.f3 < 0
              · have b3 := decide_eq_true c3
                have b3' : decide (0 ≤ x.f3) = false := decide_eq_false (by omega)
                by_cases c4 : x.f4 = 0
                · have b4 : (x.f4 != 0) = false := by simp [c4]
                  by_cases c5 : x.f5 = 0
                  · have b5 : (x.f5 != 0) = false := by simp [c5]
                    have N13 := Aside0.mk (show ¬ histB13 x from fun g => g.2.elim (fun g => g c4) (fun g => g c5))
                    have A3 := Aside0.mk (show ¬ x.f3 ≥ 0 by omega)
                    clear c4 c5
                    go_wp2_with (first
                      | ((with_reducible refine gate_store (t := 3) (p := 129) rfl ?_); refine store_event (t := 3) (p := 129) (v := ?vo_129n) (w1 := (wc.setCell ⟨w2.heap.size, x.f0.toNat, none⟩ (.int .i64 (wrap64 (x.f1 + 1))))) ?hg ?ho ?hn ?hr ?_; (case ho => rfl); (case hg => rfl); (case hn => rfl); (case hr => first | (go_simp; done) | (go_simp; rfl)); intro w5 hw; have HS6 := Aside0.mk (show HS w w5 w.heap.size w2.heap.size (w2.heap.size + 1) a (n : Int) c (nx.set x.f0.toNat (wrap64 (x.f1 + 1))) bz from by rw [hw]; exact HS5.out.setn _ _); have BX6 := Aside0.mk (show w5.heap[gx]? = some (.cells #[.int .i64 x.f0, .int .i64 x.f1, .int .i64 x.f2, .int .i64 x.f3, .int .i64 x.f4, .int .i64 x.f5] 69 (0, 0)) from by rw [hw]; exact blk_far BX5.out (p := ⟨w2.heap.size, x.f0.toNat, none⟩) (blk_ne BX5.out HS5.out.kn (by decide)) _); clear HS5 BX5 hw e0 e1 e2 e3 e4 e5 n1 fz; have e0 := (blk_cell BX6.out 0).trans (show _ = some (Value.int .i64 x.f0) from rfl); have e1 := (blk_cell BX6.out 1).trans (show _ = some (Value.int .i64 x.f1) from rfl); have e2 := (blk_cell BX6.out 2).trans (show _ = some (Value.int .i64 x.f2) from rfl); have e3 := (blk_cell BX6.out 3).trans (show _ = some (Value.int .i64 x.f3) from rfl); have e4 := (blk_cell BX6.out 4).trans (show _ = some (Value.int .i64 x.f4) from rfl); have e5 := (blk_cell BX6.out 5).trans (show _ = some (Value.int .i64 x.f5) from rfl); have n1 := ints_cell HS6.out.kb x.f0 F0.out.1 (by rw [HS6.out.lb]; exact F0.out.2); have fz := blk_frozen HS6.out.kb x.f0.toNat)
                      | ((with_reducible refine gate_store (t := 3) (p := 135) rfl ?_); refine store_event (t := 3) (p := 135) (v := ?vo_135n) (w1 := (w5.setCell ⟨w2.heap.size + 1, x.f0.toNat, none⟩ (.int .i64 x.f3))) ?hg ?ho ?hn ?hr ?_; (case ho => rfl); (case hg => rfl); (case hn => rfl); (case hr => first | (go_simp; done) | (go_simp; rfl)); intro w6 hw; have HS7 := Aside0.mk (show HS w w6 w.heap.size w2.heap.size (w2.heap.size + 1) a (n : Int) c (nx.set x.f0.toNat (wrap64 (x.f1 + 1))) (bz.set x.f0.toNat x.f3) from by rw [hw]; exact HS6.out.setb _ _); have BX7 := Aside0.mk (show w6.heap[gx]? = some (.cells #[.int .i64 x.f0, .int .i64 x.f1, .int .i64 x.f2, .int .i64 x.f3, .int .i64 x.f4, .int .i64 x.f5] 69 (0, 0)) from by rw [hw]; exact blk_far BX6.out (p := ⟨w2.heap.size + 1, x.f0.toNat, none⟩) (blk_ne BX6.out HS6.out.kb (by decide)) _); clear HS6 BX6 hw e0 e1 e2 e3 e4 e5 n1 fz; have e0 := (blk_cell BX7.out 0).trans (show _ = some (Value.int .i64 x.f0) from rfl); have e1 := (blk_cell BX7.out 1).trans (show _ = some (Value.int .i64 x.f1) from rfl); have e2 := (blk_cell BX7.out 2).trans (show _ = some (Value.int .i64 x.f2) from rfl); have e3 := (blk_cell BX7.out 3).trans (show _ = some (Value.int .i64 x.f3) from rfl); have e4 := (blk_cell BX7.out 4).trans (show _ = some (Value.int .i64 x.f4) from rfl); have e5 := (blk_cell BX7.out 5).trans (show _ = some (Value.int .i64 x.f5) from rfl); have n1 := ints_cell HS7.out.kb x.f0 F0.out.1 (by rw [HS7.out.lb]; exact F0.out.2); have fz := blk_frozen HS7.out.kb x.f0.toNat))
                    go_roundg d
                    case measure => omega
                    case rel =>
                      have hi_ := HI.out
                      have hn_ := HN.out
                      have hw_ : wrap64 (z + 1) = z + 1 := by unfold wrap64; omega
                      refine ⟨wrap64 (z + 1), i + 1, d, _, _, by omega, rfl, ⟨by omega, by rw [hw_]; omega⟩, HS7, ⟨?_⟩⟩
                      have h_ := HG2.out
                      rw [spec_HistOk.go, HX.out, if_neg N9.out, if_neg N11.out, if_neg N13.out] at h_
                      rw [hw_, ← h_, if_neg (show ¬ x.f3 ≥ 0 by have := A3.out; omega)]
                  · have b5 : (x.f5 != 0) = true := by simp [c5]
                    obtain rfl : false = r := by have h_ := HG2.out; rw [spec_HistOk.go, HX.out, if_neg N9.out, if_neg N11.out, if_pos (show histB13 x from ⟨c3, Or.inr c5⟩)] at h_; exact h_
                    go_wp2
                    go_ret
                    exact ⟨rfl, HS5.out.below⟩
                · have b4 : (x.f4 != 0) = true := by simp [c4]
                  obtain rfl : false = r := by have h_ := HG2.out; rw [spec_HistOk.go, HX.out, if_neg N9.out, if_neg N11.out, if_pos (show histB13 x from ⟨c3, Or.inl c4⟩)] at h_; exact h_
                  go_wp2
                  go_ret
                  exact ⟨rfl, HS5.out.below⟩
              · have b3 := decide_eq_false c3
                have b3' : decide (0 ≤ x.f3) = true := decide_eq_true (by omega)
                have N13 := Aside0.mk (show ¬ histB13 x from fun g => c3 g.1)
                have A3 := Aside0.mk (show x.f3 ≥ 0 by omega)
                go_wp2_with (first
                  | ((with_reducible refine gate_store (t := 3) (p := 129) rfl ?_); refine store_event (t := 3) (p := 129) (v := ?vo_129p) (w1 := (wc.setCell ⟨w2.heap.size, x.f0.toNat, none⟩ (.int .i64 (wrap64 (x.f1 + 1))))) ?hg ?ho ?hn ?hr ?_; (case ho => rfl); (case hg => rfl); (case hn => rfl); (case hr => first | (go_simp; done) | (go_simp; rfl)); intro w5 hw; have HS6 := Aside0.mk (show HS w w5 w.heap.size w2.heap.size (w2.heap.size + 1) a (n : Int) c (nx.set x.f0.toNat (wrap64 (x.f1 + 1))) bz from by rw [hw]; exact HS5.out.setn _ _); have BX6 := Aside0.mk (show w5.heap[gx]? = some (.cells #[.int .i64 x.f0, .int .i64 x.f1, .int .i64 x.f2, .int .i64 x.f3, .int .i64 x.f4, .int .i64 x.f5] 69 (0, 0)) from by rw [hw]; exact blk_far BX5.out (p := ⟨w2.heap.size, x.f0.toNat, none⟩) (blk_ne BX5.out HS5.out.kn (by decide)) _); clear HS5 BX5 hw e0 e1 e2 e3 e4 e5 n1 fz; have e0 := (blk_cell BX6.out 0).trans (show _ = some (Value.int .i64 x.f0) from rfl); have e1 := (blk_cell BX6.out 1).trans (show _ = some (Value.int .i64 x.f1) from rfl); have e2 := (blk_cell BX6.out 2).trans (show _ = some (Value.int .i64 x.f2) from rfl); have e3 := (blk_cell BX6.out 3).trans (show _ = some (Value.int .i64 x.f3) from rfl); have e4 := (blk_cell BX6.out 4).trans (show _ = some (Value.int .i64 x.f4) from rfl); have e5 := (blk_cell BX6.out 5).trans (show _ = some (Value.int .i64 x.f5) from rfl); have n1 := ints_cell HS6.out.kb x.f0 F0.out.1 (by rw [HS6.out.lb]; exact F0.out.2); have fz := blk_frozen HS6.out.kb x.f0.toNat)
                  | ((with_reducible refine gate_store (t := 3) (p := 135) rfl ?_); refine store_event (t := 3) (p := 135) (v := ?vo_135p) (w1 := (w5.setCell ⟨w2.heap.size + 1, x.f0.toNat, none⟩ (.int .i64 x.f3))) ?hg ?ho ?hn ?hr ?_; (case ho => rfl); (case hg => rfl); (case hn => rfl); (case hr => first | (go_simp; done) | (go_simp; rfl)); intro w6 hw; have HS7 := Aside0.mk (show HS w w6 w.heap.size w2.heap.size (w2.heap.size + 1) a (n : Int) c (nx.set x.f0.toNat (wrap64 (x.f1 + 1))) (bz.set x.f0.toNat x.f3) from by rw [hw]; exact HS6.out.setb _ _); have BX7 := Aside0.mk (show w6.heap[gx]? = some (.cells #[.int .i64 x.f0, .int .i64 x.f1, .int .i64 x.f2, .int .i64 x.f3, .int .i64 x.f4, .int .i64 x.f5] 69 (0, 0)) from by rw [hw]; exact blk_far BX6.out (p := ⟨w2.heap.size + 1, x.f0.toNat, none⟩) (blk_ne BX6.out HS6.out.kb (by decide)) _); clear HS6 BX6 hw e0 e1 e2 e3 e4 e5 n1 fz; have e0 := (blk_cell BX7.out 0).trans (show _ = some (Value.int .i64 x.f0) from rfl); have e1 := (blk_cell BX7.out 1).trans (show _ = some (Value.int .i64 x.f1) from rfl); have e2 := (blk_cell BX7.out 2).trans (show _ = some (Value.int .i64 x.f2) from rfl); have e3 := (blk_cell BX7.out 3).trans (show _ = some (Value.int .i64 x.f3) from rfl); have e4 := (blk_cell BX7.out 4).trans (show _ = some (Value.int .i64 x.f4) from rfl); have e5 := (blk_cell BX7.out 5).trans (show _ = some (Value.int .i64 x.f5) from rfl); have n1 := ints_cell HS7.out.kb x.f0 F0.out.1 (by rw [HS7.out.lb]; exact F0.out.2); have fz := blk_frozen HS7.out.kb x.f0.toNat)
                  | ((with_reducible refine gate_store (t := 3) (p := 145) rfl ?_); refine store_event (t := 3) (p := 145) (v := ?vo_145p) (w1 := (w6.setCell ⟨w2.heap.size + 1, x.f0.toNat, none⟩ (.int .i64 (wrap64 (x.f3 + 1))))) ?hg ?ho ?hn ?hr ?_; (case ho => rfl); (case hg => rfl); (case hn => rfl); (case hr => first | (go_simp; done) | (go_simp; rfl)); intro w7 hw; have HS8 := Aside0.mk (show HS w w7 w.heap.size w2.heap.size (w2.heap.size + 1) a (n : Int) c (nx.set x.f0.toNat (wrap64 (x.f1 + 1))) (bz.set x.f0.toNat (wrap64 (x.f3 + 1))) from by have h_ := HS7.out.setb x.f0.toNat (wrap64 (x.f3 + 1)); rw [List.set_set] at h_; rw [hw]; exact h_); have BX8 := Aside0.mk (show w7.heap[gx]? = some (.cells #[.int .i64 x.f0, .int .i64 x.f1, .int .i64 x.f2, .int .i64 x.f3, .int .i64 x.f4, .int .i64 x.f5] 69 (0, 0)) from by rw [hw]; exact blk_far BX7.out (p := ⟨w2.heap.size + 1, x.f0.toNat, none⟩) (blk_ne BX7.out HS7.out.kb (by decide)) _); clear HS7 BX7 hw e0 e1 e2 e3 e4 e5 n1 fz; have e0 := (blk_cell BX8.out 0).trans (show _ = some (Value.int .i64 x.f0) from rfl); have e1 := (blk_cell BX8.out 1).trans (show _ = some (Value.int .i64 x.f1) from rfl); have e2 := (blk_cell BX8.out 2).trans (show _ = some (Value.int .i64 x.f2) from rfl); have e3 := (blk_cell BX8.out 3).trans (show _ = some (Value.int .i64 x.f3) from rfl); have e4 := (blk_cell BX8.out 4).trans (show _ = some (Value.int .i64 x.f4) from rfl); have e5 := (blk_cell BX8.out 5).trans (show _ = some (Value.int .i64 x.f5) from rfl); skip))
                go_roundg d
                case measure => omega
                case rel =>
                  have hi_ := HI.out
                  have hn_ := HN.out
                  have hw_ : wrap64 (z + 1) = z + 1 := by unfold wrap64; omega
                  refine ⟨wrap64 (z + 1), i + 1, d, _, _, by omega, rfl, ⟨by omega, by rw [hw_]; omega⟩, HS8, ⟨?_⟩⟩
                  have h_ := HG2.out
                  rw [spec_HistOk.go, HX.out, if_neg N9.out, if_neg N11.out, if_neg N13.out] at h_
                  rw [hw_, ← h_, if_pos (show x.f3 ≥ 0 by have := A3.out; omega)]
    · rw [if_neg hn] at h
      cases h
  · rw [if_neg ht] at h
    obtain rfl : t = false := by simpa using ht
    obtain rfl := Option.some.inj h
    clear h ht
    go_enter Try.func19, Try.ntmps19
    go_wp2_with (go_at_call 11; rw [← hw1]; refine cs.mono ?_; rintro e w2 ⟨rfl, hb2⟩; have B2 := Aside0.mk (below_step HB1.out hb2); clear cs hb2)
    go_ret
    exact ⟨rfl, B2.out⟩

/-! ### laws_toCall: function 31 -/
def laws_toCall.f (a0_0 : Int) (a0_1 : Int) (a0_2 : Int) (a0_3 : Int) (a0_4 : Int) (a0_5 : Int) : Option (Int × Int × Int × Int × Int × Int) := some (a0_0, a0_1, a0_2, a0_3, a0_4, a0_5)
set_option maxHeartbeats 8000000 in
set_option maxRecDepth 100000 in
theorem laws_toCall.calls (a0_0 : Int) (a0_1 : Int) (a0_2 : Int) (a0_3 : Int) (a0_4 : Int) (a0_5 : Int) (r1 : Int) (r2 : Int) (r3 : Int) (r4 : Int) (r5 : Int) (r6 : Int) (w : World) (h : laws_toCall.f a0_0 a0_1 a0_2 a0_3 a0_4 a0_5 = some (r1, r2, r3, r4, r5, r6)) :
    Calls Try.prog 31 #[.agg #[.int .i64 a0_0, .int .i64 a0_1, .int .i64 a0_2, .int .i64 a0_3, .int .i64 a0_4, .int .i64 a0_5]] w fun e w' => e = .returned (.agg #[.int .i64 r1, .int .i64 r2, .int .i64 r3, .int .i64 r4, .int .i64 r5, .int .i64 r6]) ∧ Below w.heap.size w w' := by
  have hu71 := Try.underlying71
  have hu69 := Try.underlying69
  have HB := Aside0.mk (Below.refl w.heap.size w)
  have H : (some (a0_0, a0_1, a0_2, a0_3, a0_4, a0_5)) = some (r1, r2, r3, r4, r5, r6) := h
  clear h
  simp only [Option.some.injEq, Prod.mk.injEq] at H
  obtain ⟨rfl, rfl, rfl, rfl, rfl, rfl⟩ := H
  go_enter Try.func31, Try.ntmps31
  go_wp2_with (first | ((with_reducible refine gate_dst (N := 1) rfl ?_); refine box_event ?hg (N := 1) ?hd (cs := #[.int .i64 a0_0, .int .i64 a0_1, .int .i64 a0_2, .int .i64 a0_3, .int .i64 a0_4, .int .i64 a0_5]) (t := 71) ?hr ?_; (case hd => rfl); (case hg => rfl); (case hr => first | (go_simp; done) | (go_simp; rfl)); intro gb150 hg w2 hbox hb; have n0_ := Aside0.mk (below_step (by repeat (first | (with_reducible first | exact HB.out | apply below_alloc | apply pw_below_drewN | apply below_drew1) | exact HB.out)) hb); have n1_ := Aside0.mk (hbox); have n2_ := Aside0.mk ((by rw [hg]; exact (below_size (by repeat (first | (with_reducible first | exact HB.out | apply below_alloc | apply pw_below_drewN | apply below_drew1) | exact HB.out))) : w.heap.size ≤ gb150)); have n3_ := Aside0.mk ((by rw [hg]; exact (below_size (by repeat (first | (with_reducible first | exact HB.out | apply below_alloc | apply pw_below_drewN | apply below_drew1) | exact HB.out))) : w.heap.size ≤ gb150)); clear HB; have HB := n0_; have BK150 := n1_; have GW150 := n2_; have GE150 := n3_; clear n0_ n1_ n2_ n3_; clear hb hbox hg) | ((with_reducible refine gate_dst (N := 2) rfl ?_); refine box_event ?hg (N := 2) ?hd (cs := #[.int .i64 0, .int .i64 0, .int .i64 0, .int .i64 0, .int .i64 0, .int .i64 0]) (t := 69) ?hr ?_; (case hd => rfl); (case hg => rfl); (case hr => first | (go_simp; done) | (go_simp; rfl)); intro gb151 hg w3 hbox hb; have n0_ := Aside0.mk (blk_below (g := gb150) (o := .cells #[.int .i64 a0_0, .int .i64 a0_1, .int .i64 a0_2, .int .i64 a0_3, .int .i64 a0_4, .int .i64 a0_5] 71 (0, 0)) (by (with_reducible repeat (first | refine blk_drewN ?_ _ | refine blk_drew ?_ | refine blk_alloc ?_ _)); exact BK150.out) hb); have n1_ := Aside0.mk (below_step (by repeat (first | (with_reducible first | exact HB.out | apply below_alloc | apply pw_below_drewN | apply below_drew1 | refine below_set ?_ GE150.out) | exact HB.out)) hb); have n2_ := Aside0.mk (hbox); have n3_ := Aside0.mk ((by rw [hg]; exact (below_size (by repeat (first | (with_reducible first | exact HB.out | apply below_alloc | apply pw_below_drewN | apply below_drew1 | refine below_set ?_ GE150.out) | exact HB.out))) : w.heap.size ≤ gb151)); have n4_ := Aside0.mk ((by rw [hg]; exact (below_size (by repeat (first | (with_reducible first | exact HB.out | apply below_alloc | apply pw_below_drewN | apply below_drew1 | refine below_set ?_ GE150.out) | exact HB.out))) : w.heap.size ≤ gb151)); have n5_ := Aside0.mk ((by rw [hg]; exact Nat.ne_of_lt (blk_lt (g := gb150) (o := .cells #[.int .i64 a0_0, .int .i64 a0_1, .int .i64 a0_2, .int .i64 a0_3, .int .i64 a0_4, .int .i64 a0_5] 71 (0, 0)) (by (with_reducible repeat (first | refine blk_drewN ?_ _ | refine blk_drew ?_ | refine blk_alloc ?_ _)); exact BK150.out)) : gb150 ≠ gb151)); have n6_ := Aside0.mk ((by rw [hg]; exact Nat.ne_of_gt (blk_lt (g := gb150) (o := .cells #[.int .i64 a0_0, .int .i64 a0_1, .int .i64 a0_2, .int .i64 a0_3, .int .i64 a0_4, .int .i64 a0_5] 71 (0, 0)) (by (with_reducible repeat (first | refine blk_drewN ?_ _ | refine blk_drew ?_ | refine blk_alloc ?_ _)); exact BK150.out)) : gb151 ≠ gb150)); clear BK150; clear HB; have BK150 := n0_; have HB := n1_; have BK151 := n2_; have GW151 := n3_; have GE151 := n4_; have NB150_151 := n5_; have NB151_150 := n6_; clear n0_ n1_ n2_ n3_ n4_ n5_ n6_; clear hb hbox hg) | ((with_reducible refine gate_dst (N := 3) rfl ?_); refine box_event ?hg (N := 3) ?hd (cs := #[.int .i64 0, .int .i64 0, .int .i64 0, .int .i64 0, .int .i64 0, .int .i64 0]) (t := 69) ?hr ?_; (case hd => rfl); (case hg => rfl); (case hr => first | (go_simp; done) | (go_simp; rfl)); intro gb152 hg w4 hbox hb; have n0_ := Aside0.mk (blk_below (g := gb150) (o := .cells #[.int .i64 a0_0, .int .i64 a0_1, .int .i64 a0_2, .int .i64 a0_3, .int .i64 a0_4, .int .i64 a0_5] 71 (0, 0)) (by (with_reducible repeat (first | refine blk_drewN ?_ _ | refine blk_drew ?_ | refine blk_alloc ?_ _)); exact BK150.out) hb); have n1_ := Aside0.mk (blk_below (g := gb151) (o := .cells #[.int .i64 0, .int .i64 0, .int .i64 0, .int .i64 0, .int .i64 0, .int .i64 0] 69 (0, 0)) (by (with_reducible repeat (first | refine blk_drewN ?_ _ | refine blk_drew ?_ | refine blk_alloc ?_ _)); exact BK151.out) hb); have n2_ := Aside0.mk (below_step (by repeat (first | (with_reducible first | exact HB.out | apply below_alloc | apply pw_below_drewN | apply below_drew1 | refine below_set ?_ GE150.out | refine below_set ?_ GE151.out) | exact HB.out)) hb); have n3_ := Aside0.mk (hbox); have n4_ := Aside0.mk ((by rw [hg]; exact (below_size (by repeat (first | (with_reducible first | exact HB.out | apply below_alloc | apply pw_below_drewN | apply below_drew1 | refine below_set ?_ GE150.out | refine below_set ?_ GE151.out) | exact HB.out))) : w.heap.size ≤ gb152)); have n5_ := Aside0.mk ((by rw [hg]; exact (below_size (by repeat (first | (with_reducible first | exact HB.out | apply below_alloc | apply pw_below_drewN | apply below_drew1 | refine below_set ?_ GE150.out | refine below_set ?_ GE151.out) | exact HB.out))) : w.heap.size ≤ gb152)); have n6_ := Aside0.mk ((by rw [hg]; exact Nat.ne_of_lt (blk_lt (g := gb150) (o := .cells #[.int .i64 a0_0, .int .i64 a0_1, .int .i64 a0_2, .int .i64 a0_3, .int .i64 a0_4, .int .i64 a0_5] 71 (0, 0)) (by (with_reducible repeat (first | refine blk_drewN ?_ _ | refine blk_drew ?_ | refine blk_alloc ?_ _)); exact BK150.out)) : gb150 ≠ gb152)); have n7_ := Aside0.mk ((by rw [hg]; exact Nat.ne_of_gt (blk_lt (g := gb150) (o := .cells #[.int .i64 a0_0, .int .i64 a0_1, .int .i64 a0_2, .int .i64 a0_3, .int .i64 a0_4, .int .i64 a0_5] 71 (0, 0)) (by (with_reducible repeat (first | refine blk_drewN ?_ _ | refine blk_drew ?_ | refine blk_alloc ?_ _)); exact BK150.out)) : gb152 ≠ gb150)); have n8_ := Aside0.mk ((by rw [hg]; exact Nat.ne_of_lt (blk_lt (g := gb151) (o := .cells #[.int .i64 0, .int .i64 0, .int .i64 0, .int .i64 0, .int .i64 0, .int .i64 0] 69 (0, 0)) (by (with_reducible repeat (first | refine blk_drewN ?_ _ | refine blk_drew ?_ | refine blk_alloc ?_ _)); exact BK151.out)) : gb151 ≠ gb152)); have n9_ := Aside0.mk ((by rw [hg]; exact Nat.ne_of_gt (blk_lt (g := gb151) (o := .cells #[.int .i64 0, .int .i64 0, .int .i64 0, .int .i64 0, .int .i64 0, .int .i64 0] 69 (0, 0)) (by (with_reducible repeat (first | refine blk_drewN ?_ _ | refine blk_drew ?_ | refine blk_alloc ?_ _)); exact BK151.out)) : gb152 ≠ gb151)); clear BK150; clear BK151; clear HB; have BK150 := n0_; have BK151 := n1_; have HB := n2_; have BK152 := n3_; have GW152 := n4_; have GE152 := n5_; have NB150_152 := n6_; have NB152_150 := n7_; have NB151_152 := n8_; have NB152_151 := n9_; clear n0_ n1_ n2_ n3_ n4_ n5_ n6_ n7_ n8_ n9_; clear hb hbox hg; have hnb5 := NB150_151.out; have hnc5 := NB151_150.out; have hnb6 := NB150_152.out; have hnc6 := NB152_150.out; have hcz7_0 : w4.cell? ⟨gb150, 0, none⟩ = some (.int .i64 a0_0) := (blk_cell BK150.out 0).trans rfl; have hcz7_1 : w4.cell? ⟨gb150, 1, none⟩ = some (.int .i64 a0_1) := (blk_cell BK150.out 1).trans rfl; have hcz7_2 : w4.cell? ⟨gb150, 2, none⟩ = some (.int .i64 a0_2) := (blk_cell BK150.out 2).trans rfl; have hcz7_3 : w4.cell? ⟨gb150, 3, none⟩ = some (.int .i64 a0_3) := (blk_cell BK150.out 3).trans rfl; have hcz7_4 : w4.cell? ⟨gb150, 4, none⟩ = some (.int .i64 a0_4) := (blk_cell BK150.out 4).trans rfl; have hcz7_5 : w4.cell? ⟨gb150, 5, none⟩ = some (.int .i64 a0_5) := (blk_cell BK150.out 5).trans rfl; have hfz7_0 := blk_frozen BK150.out 0; have hfz7_1 := blk_frozen BK150.out 1; have hfz7_2 := blk_frozen BK150.out 2; have hfz7_3 := blk_frozen BK150.out 3; have hfz7_4 := blk_frozen BK150.out 4; have hfz7_5 := blk_frozen BK150.out 5; have hnb8 := NB152_151.out; have hnc8 := NB151_152.out; have hcz9_0 : w4.cell? ⟨gb152, 0, none⟩ = some (.int .i64 0) := (blk_cell BK152.out 0).trans rfl; have hcz9_1 : w4.cell? ⟨gb152, 1, none⟩ = some (.int .i64 0) := (blk_cell BK152.out 1).trans rfl; have hcz9_2 : w4.cell? ⟨gb152, 2, none⟩ = some (.int .i64 0) := (blk_cell BK152.out 2).trans rfl; have hcz9_3 : w4.cell? ⟨gb152, 3, none⟩ = some (.int .i64 0) := (blk_cell BK152.out 3).trans rfl; have hcz9_4 : w4.cell? ⟨gb152, 4, none⟩ = some (.int .i64 0) := (blk_cell BK152.out 4).trans rfl; have hcz9_5 : w4.cell? ⟨gb152, 5, none⟩ = some (.int .i64 0) := (blk_cell BK152.out 5).trans rfl; have hfz9_0 := blk_frozen BK152.out 0; have hfz9_1 := blk_frozen BK152.out 1; have hfz9_2 := blk_frozen BK152.out 2; have hfz9_3 := blk_frozen BK152.out 3; have hfz9_4 := blk_frozen BK152.out 4; have hfz9_5 := blk_frozen BK152.out 5; have hcz10_0 : w4.cell? ⟨gb151, 0, none⟩ = some (.int .i64 0) := (blk_cell BK151.out 0).trans rfl; have hcz10_1 : w4.cell? ⟨gb151, 1, none⟩ = some (.int .i64 0) := (blk_cell BK151.out 1).trans rfl; have hcz10_2 : w4.cell? ⟨gb151, 2, none⟩ = some (.int .i64 0) := (blk_cell BK151.out 2).trans rfl; have hcz10_3 : w4.cell? ⟨gb151, 3, none⟩ = some (.int .i64 0) := (blk_cell BK151.out 3).trans rfl; have hcz10_4 : w4.cell? ⟨gb151, 4, none⟩ = some (.int .i64 0) := (blk_cell BK151.out 4).trans rfl; have hcz10_5 : w4.cell? ⟨gb151, 5, none⟩ = some (.int .i64 0) := (blk_cell BK151.out 5).trans rfl; have hfz10_0 := blk_frozen BK151.out 0; have hfz10_1 := blk_frozen BK151.out 1; have hfz10_2 := blk_frozen BK151.out 2; have hfz10_3 := blk_frozen BK151.out 3; have hfz10_4 := blk_frozen BK151.out 4; have hfz10_5 := blk_frozen BK151.out 5))
  refine bodyPost_ret (results_cell_row rfl _ _ gb151 69 #[.int .i64 a0_0, .int .i64 a0_1, .int .i64 a0_2, .int .i64 a0_3, .int .i64 a0_4, .int .i64 a0_5] (0, 0) _ rfl (by (with_reducible repeat (first | refine blk_drewN ?_ _ | refine blk_drew ?_ | refine blk_alloc ?_ _)); refine blk_put (cs := #[.int .i64 a0_0, .int .i64 a0_1, .int .i64 a0_2, .int .i64 a0_3, .int .i64 a0_4, .int .i64 0]) ?_ 5 _ rfl; (with_reducible repeat (first | refine blk_drewN ?_ _ | refine blk_drew ?_ | refine blk_alloc ?_ _)); refine blk_put (cs := #[.int .i64 a0_0, .int .i64 a0_1, .int .i64 a0_2, .int .i64 a0_3, .int .i64 0, .int .i64 0]) ?_ 4 _ rfl; (with_reducible repeat (first | refine blk_drewN ?_ _ | refine blk_drew ?_ | refine blk_alloc ?_ _)); refine blk_put (cs := #[.int .i64 a0_0, .int .i64 a0_1, .int .i64 a0_2, .int .i64 0, .int .i64 0, .int .i64 0]) ?_ 3 _ rfl; (with_reducible repeat (first | refine blk_drewN ?_ _ | refine blk_drew ?_ | refine blk_alloc ?_ _)); refine blk_put (cs := #[.int .i64 a0_0, .int .i64 a0_1, .int .i64 0, .int .i64 0, .int .i64 0, .int .i64 0]) ?_ 2 _ rfl; (with_reducible repeat (first | refine blk_drewN ?_ _ | refine blk_drew ?_ | refine blk_alloc ?_ _)); refine blk_put (cs := #[.int .i64 a0_0, .int .i64 0, .int .i64 0, .int .i64 0, .int .i64 0, .int .i64 0]) ?_ 1 _ rfl; (with_reducible repeat (first | refine blk_drewN ?_ _ | refine blk_drew ?_ | refine blk_alloc ?_ _)); refine blk_put (cs := #[.int .i64 0, .int .i64 0, .int .i64 0, .int .i64 0, .int .i64 0, .int .i64 0]) ?_ 0 _ rfl; (with_reducible repeat (first | refine blk_drewN ?_ _ | refine blk_drew ?_ | refine blk_alloc ?_ _)); refine blk_far ?_ NB151_152.out _; (with_reducible repeat (first | refine blk_drewN ?_ _ | refine blk_drew ?_ | refine blk_alloc ?_ _)); refine blk_far ?_ NB151_152.out _; (with_reducible repeat (first | refine blk_drewN ?_ _ | refine blk_drew ?_ | refine blk_alloc ?_ _)); refine blk_far ?_ NB151_152.out _; (with_reducible repeat (first | refine blk_drewN ?_ _ | refine blk_drew ?_ | refine blk_alloc ?_ _)); refine blk_far ?_ NB151_152.out _; (with_reducible repeat (first | refine blk_drewN ?_ _ | refine blk_drew ?_ | refine blk_alloc ?_ _)); refine blk_far ?_ NB151_152.out _; (with_reducible repeat (first | refine blk_drewN ?_ _ | refine blk_drew ?_ | refine blk_alloc ?_ _)); refine blk_far ?_ NB151_152.out _; (with_reducible repeat (first | refine blk_drewN ?_ _ | refine blk_drew ?_ | refine blk_alloc ?_ _)); exact BK151.out) Try.underlying69 rfl (by kernel_rfl)) rfl ?_
  exact ⟨by first | rfl | (simp [errW_none, errW_some] <;> rfl) | (simp [*, errW_none, errW_some] <;> rfl), by repeat (first | (with_reducible first | exact HB.out | apply below_alloc | apply pw_below_drewN | apply below_drew1 | refine below_set ?_ GE150.out | refine below_set ?_ GE151.out | refine below_set ?_ GE152.out) | exact HB.out)⟩

end Go.Proofs.Ytnkcoooifjjmbaa.QFnExactHistOk
