-- Written by a program of this session that drives the print of the kit, with contracts of its own beside the printed ones. Lean checks it.
import Derived.Test.YtdaikmojalfimaaQFnExactPathFromx0
import Derived.Test.YtdaikmojalfimaaQFnExactPathFromx4
namespace Go.Proofs.Ytdaikmojalfimaa.QFnExactPathFrom
open Go.RowKit Go.Proofs.YtdaikmojalfimaaW.PrintWords Go.Proofs.YtdaikmojalfimaaW.PrintLast Go.Proofs.YtdaikmojalfimaaW.PrintMore
attribute [local go_sem] max2_int min2_int max_two min_two max_three min_three max_four min_four   -- for this text's walks alone
set_option linter.unusedVariables false
set_option linter.unusedSimpArgs false

/-! ### spec_PathFrom: function 27 -/
mutual
def spec_PathFrom.j0 : Nat → Int → Int → Bool → List (S50) → List (List Int) → List Int → Option (List Int × Bool)
  | 0, _, _, _, _, _, _ => none
  | k + 1, x1, x2, x42, x188000, x188001, x188002 => if x42 = true then (some (([] : List Int), false)) else (if 0 ≤ (x188000.length : Int) then (if ((x188000.length : Int) : Int).toNat ≤ 35184372088832 then (if ((x188000.length : Int) : Int).toNat ≤ 281474976710656 then (spec_PathFrom.l0 k x1 x2 ([] : List Int) (List.replicate ((x188000.length : Int) : Int).toNat 0) (List.replicate ((x188000.length : Int) : Int).toNat false) 0 x188000 x188001 x188002) else (none)) else (none)) else (none))
def spec_PathFrom.l0 : Nat → Int → Int → List Int → List Int → List Bool → Int → List (S50) → List (List Int) → List Int → Option (List Int × Bool)
  | 0, _, _, _, _, _, _, _, _, _ => none
  | k + 1, x1, x2, x8, x9, x10, x11, x188000, x188001, x188002 => if 0 ≤ x1 then (if x1 < (x188001.length : Int) then (if x11 < ((rd_L1 x188001 x1).length : Int) then (if 0 ≤ x11 then (if (rd (rd_L1 x188001 x1) x11) ≥ 0 then (if 0 ≤ (rd (rd_L1 x188001 x1) x11) then (if (rd (rd_L1 x188001 x1) x11) < (x10.length : Int) then (if (rdOf false x10 (rd (rd_L1 x188001 x1) x11) = true) then (spec_PathFrom.l0 k x1 x2 x8 x9 x10 (wrap64 (x11 + 1)) x188000 x188001 x188002) else (if (rd (rd_L1 x188001 x1) x11) < (x9.length : Int) then (if x8.length < 17592186044416 then (spec_PathFrom.l0 k x1 x2 (x8 ++ [rd (rd_L1 x188001 x1) x11]) (x9.set ((rd (rd_L1 x188001 x1) x11) : Int).toNat (-1)) (x10.set ((rd (rd_L1 x188001 x1) x11) : Int).toNat true) (wrap64 (x11 + 1)) x188000 x188001 x188002) else (none)) else (none))) else (none)) else (none)) else (spec_PathFrom.l0 k x1 x2 x8 x9 x10 (wrap64 (x11 + 1)) x188000 x188001 x188002)) else (none)) else (spec_PathFrom.l1 k x2 x8 x9 x10 0 x188000 x188001 x188002)) else (none)) else (none)
def spec_PathFrom.l1 : Nat → Int → List Int → List Int → List Bool → Int → List (S50) → List (List Int) → List Int → Option (List Int × Bool)
  | 0, _, _, _, _, _, _, _, _ => none
  | k + 1, x2, x8, x9, x10, x13, x188000, x188001, x188002 => if x13 < (x8.length : Int) then (if 0 ≤ x13 then (if 0 ≤ (rd x8 x13) then (if (rd x8 x13) < (x188000.length : Int) then (spec_PathFrom.l2 k x2 x8 x9 x10 x13 ((rd_T50 x188000 (rd x8 x13)).f0) 0 x188000 x188001 x188002) else (none)) else (none)) else (none)) else (if 0 ≤ x2 then (if x2 < (x10.length : Int) then (if rdOf false x10 x2 = true then (spec_PathFrom.l3 k x9 ([] : List Int) x2) else (some (([] : List Int), false))) else (none)) else (none))
def spec_PathFrom.l2 : Nat → Int → List Int → List Int → List Bool → Int → List Int → Int → List (S50) → List (List Int) → List Int → Option (List Int × Bool)
  | 0, _, _, _, _, _, _, _, _, _, _ => none
  | k + 1, x2, x8, x9, x10, x13, x14, x15, x188000, x188001, x188002 => if x15 < (x14.length : Int) then (if 0 ≤ x15 then (if (rd x14 x15) ≥ 0 then (if 0 ≤ (rd x14 x15) then (if (rd x14 x15) < (x10.length : Int) then (if (rdOf false x10 (rd x14 x15) = true) then (spec_PathFrom.l2 k x2 x8 x9 x10 x13 x14 (wrap64 (x15 + 1)) x188000 x188001 x188002) else (if 0 ≤ x13 then (if x13 < (x8.length : Int) then (if (rd x14 x15) < (x9.length : Int) then (if x8.length < 17592186044416 then (spec_PathFrom.l2 k x2 (x8 ++ [rd x14 x15]) (x9.set ((rd x14 x15) : Int).toNat (rd x8 x13)) (x10.set ((rd x14 x15) : Int).toNat true) x13 x14 (wrap64 (x15 + 1)) x188000 x188001 x188002) else (none)) else (none)) else (none)) else (none))) else (none)) else (none)) else (spec_PathFrom.l2 k x2 x8 x9 x10 x13 x14 (wrap64 (x15 + 1)) x188000 x188001 x188002)) else (none)) else (spec_PathFrom.l1 k x2 x8 x9 x10 (wrap64 (x13 + 1)) x188000 x188001 x188002)
def spec_PathFrom.l3 : Nat → List Int → List Int → Int → Option (List Int × Bool)
  | 0, _, _, _ => none
  | k + 1, x9, x16, x17 => if x17 ≥ 0 then ((some (([x17] : List Int) : List Int)).bind fun y219 => (if y219.length + x16.length < 17592186044416 then (if 0 ≤ x17 then (if x17 < (x9.length : Int) then (spec_PathFrom.l3 k x9 (y219 ++ x16) (rd x9 x17)) else (none)) else (none)) else (none))) else (some (x16, true))
end
def spec_PathFrom.f (k : Nat) (l0_0 : List (S50)) (l0_1 : List (List Int)) (l0_2 : List Int) (a1 : Int) (a2 : Int) : Option (List Int × Bool) := (spec_GraphOk.f k l0_0 l0_1 l0_2).bind fun t188 => (if t188 = true then (if a1 < 0 then (spec_PathFrom.j0 k a1 a2 true l0_0 l0_1 l0_2) else (if a1 ≥ (l0_1.length : Int) then (spec_PathFrom.j0 k a1 a2 true l0_0 l0_1 l0_2) else (if a2 < 0 then (spec_PathFrom.j0 k a1 a2 true l0_0 l0_1 l0_2) else (spec_PathFrom.j0 k a1 a2 (decide (a2 ≥ (l0_0.length : Int))) l0_0 l0_1 l0_2)))) else (spec_PathFrom.j0 k a1 a2 true l0_0 l0_1 l0_2))
theorem spec_PathFrom.mono_l : ∀ k, (∀ y0 y1 y2 y3 y4 y5, LeO (spec_PathFrom.j0 k y0 y1 y2 y3 y4 y5) (spec_PathFrom.j0 (k + 1) y0 y1 y2 y3 y4 y5)) ∧ (∀ y0 y1 y2 y3 y4 y5 y6 y7 y8, LeO (spec_PathFrom.l0 k y0 y1 y2 y3 y4 y5 y6 y7 y8) (spec_PathFrom.l0 (k + 1) y0 y1 y2 y3 y4 y5 y6 y7 y8)) ∧ (∀ y0 y1 y2 y3 y4 y5 y6 y7, LeO (spec_PathFrom.l1 k y0 y1 y2 y3 y4 y5 y6 y7) (spec_PathFrom.l1 (k + 1) y0 y1 y2 y3 y4 y5 y6 y7)) ∧ (∀ y0 y1 y2 y3 y4 y5 y6 y7 y8 y9, LeO (spec_PathFrom.l2 k y0 y1 y2 y3 y4 y5 y6 y7 y8 y9) (spec_PathFrom.l2 (k + 1) y0 y1 y2 y3 y4 y5 y6 y7 y8 y9)) ∧ (∀ y0 y1 y2, LeO (spec_PathFrom.l3 k y0 y1 y2) (spec_PathFrom.l3 (k + 1) y0 y1 y2))
  | 0 => ⟨fun _ _ _ _ _ _ r h => by simp [spec_PathFrom.j0] at h, fun _ _ _ _ _ _ _ _ _ r h => by simp [spec_PathFrom.l0] at h, fun _ _ _ _ _ _ _ _ r h => by simp [spec_PathFrom.l1] at h, fun _ _ _ _ _ _ _ _ _ _ r h => by simp [spec_PathFrom.l2] at h, fun _ _ _ r h => by simp [spec_PathFrom.l3] at h⟩
  | k + 1 => by
    obtain ⟨ih0, ih1, ih2, ih3, ih4⟩ := spec_PathFrom.mono_l k
    refine ⟨?_, ?_, ?_, ?_, ?_⟩
    · intro y0 y1 y2 y3 y4 y5
      unfold spec_PathFrom.j0
      repeat' first
      | (with_reducible exact ih0 _ _ _ _ _ _)
      | (with_reducible exact ih1 _ _ _ _ _ _ _ _ _)
      | (with_reducible exact ih2 _ _ _ _ _ _ _ _)
      | (with_reducible exact ih3 _ _ _ _ _ _ _ _ _ _)
      | (with_reducible exact ih4 _ _ _)
      | (with_reducible exact spec_GraphOk.mono _ _ _ _)
      | (with_reducible exact LeO.refl _)
      | (with_reducible exact LeO.none _)
      | (with_reducible refine LeO.ite ?_ ?_)
      | (with_reducible refine LeO.bind ?_ (fun _ => ?_))
      | exact ih0 _ _ _ _ _ _
      | exact ih1 _ _ _ _ _ _ _ _ _
      | exact ih2 _ _ _ _ _ _ _ _
      | exact ih3 _ _ _ _ _ _ _ _ _ _
      | exact ih4 _ _ _
      | exact spec_GraphOk.mono _ _ _ _
      | exact LeO.none _
      | refine LeO.ite ?_ ?_
      | refine LeO.bind ?_ (fun _ => ?_)
    · intro y0 y1 y2 y3 y4 y5 y6 y7 y8
      unfold spec_PathFrom.l0
      repeat' first
      | (with_reducible exact ih0 _ _ _ _ _ _)
      | (with_reducible exact ih1 _ _ _ _ _ _ _ _ _)
      | (with_reducible exact ih2 _ _ _ _ _ _ _ _)
      | (with_reducible exact ih3 _ _ _ _ _ _ _ _ _ _)
      | (with_reducible exact ih4 _ _ _)
      | (with_reducible exact spec_GraphOk.mono _ _ _ _)
      | (with_reducible exact LeO.refl _)
      | (with_reducible exact LeO.none _)
      | (with_reducible refine LeO.ite ?_ ?_)
      | (with_reducible refine LeO.bind ?_ (fun _ => ?_))
      | exact ih0 _ _ _ _ _ _
      | exact ih1 _ _ _ _ _ _ _ _ _
      | exact ih2 _ _ _ _ _ _ _ _
      | exact ih3 _ _ _ _ _ _ _ _ _ _
      | exact ih4 _ _ _
      | exact spec_GraphOk.mono _ _ _ _
      | exact LeO.none _
      | refine LeO.ite ?_ ?_
      | refine LeO.bind ?_ (fun _ => ?_)
    · intro y0 y1 y2 y3 y4 y5 y6 y7
      unfold spec_PathFrom.l1
      repeat' first
      | (with_reducible exact ih0 _ _ _ _ _ _)
      | (with_reducible exact ih1 _ _ _ _ _ _ _ _ _)
      | (with_reducible exact ih2 _ _ _ _ _ _ _ _)
      | (with_reducible exact ih3 _ _ _ _ _ _ _ _ _ _)
      | (with_reducible exact ih4 _ _ _)
      | (with_reducible exact spec_GraphOk.mono _ _ _ _)
      | (with_reducible exact LeO.refl _)
      | (with_reducible exact LeO.none _)
      | (with_reducible refine LeO.ite ?_ ?_)
      | (with_reducible refine LeO.bind ?_ (fun _ => ?_))
      | exact ih0 _ _ _ _ _ _
      | exact ih1 _ _ _ _ _ _ _ _ _
      | exact ih2 _ _ _ _ _ _ _ _
      | exact ih3 _ _ _ _ _ _ _ _ _ _
      | exact ih4 _ _ _
      | exact spec_GraphOk.mono _ _ _ _
      | exact LeO.none _
      | refine LeO.ite ?_ ?_
      | refine LeO.bind ?_ (fun _ => ?_)
    · intro y0 y1 y2 y3 y4 y5 y6 y7 y8 y9
      unfold spec_PathFrom.l2
      repeat' first
      | (with_reducible exact ih0 _ _ _ _ _ _)
      | (with_reducible exact ih1 _ _ _ _ _ _ _ _ _)
      | (with_reducible exact ih2 _ _ _ _ _ _ _ _)
      | (with_reducible exact ih3 _ _ _ _ _ _ _ _ _ _)
      | (with_reducible exact ih4 _ _ _)
      | (with_reducible exact spec_GraphOk.mono _ _ _ _)
      | (with_reducible exact LeO.refl _)
      | (with_reducible exact LeO.none _)
      | (with_reducible refine LeO.ite ?_ ?_)
      | (with_reducible refine LeO.bind ?_ (fun _ => ?_))
      | exact ih0 _ _ _ _ _ _
      | exact ih1 _ _ _ _ _ _ _ _ _
      | exact ih2 _ _ _ _ _ _ _ _
      | exact ih3 _ _ _ _ _ _ _ _ _ _
      | exact ih4 _ _ _
      | exact spec_GraphOk.mono _ _ _ _
      | exact LeO.none _
      | refine LeO.ite ?_ ?_
      | refine LeO.bind ?_ (fun _ => ?_)
    · intro y0 y1 y2
      unfold spec_PathFrom.l3
      repeat' first
      | (with_reducible exact ih0 _ _ _ _ _ _)
      | (with_reducible exact ih1 _ _ _ _ _ _ _ _ _)
      | (with_reducible exact ih2 _ _ _ _ _ _ _ _)
      | (with_reducible exact ih3 _ _ _ _ _ _ _ _ _ _)
      | (with_reducible exact ih4 _ _ _)
      | (with_reducible exact spec_GraphOk.mono _ _ _ _)
      | (with_reducible exact LeO.refl _)
      | (with_reducible exact LeO.none _)
      | (with_reducible refine LeO.ite ?_ ?_)
      | (with_reducible refine LeO.bind ?_ (fun _ => ?_))
      | exact ih0 _ _ _ _ _ _
      | exact ih1 _ _ _ _ _ _ _ _ _
      | exact ih2 _ _ _ _ _ _ _ _
      | exact ih3 _ _ _ _ _ _ _ _ _ _
      | exact ih4 _ _ _
      | exact spec_GraphOk.mono _ _ _ _
      | exact LeO.none _
      | refine LeO.ite ?_ ?_
      | refine LeO.bind ?_ (fun _ => ?_)
theorem spec_PathFrom.mono : ∀ a0 a1 a2 a3 a4 k, LeO (spec_PathFrom.f k a0 a1 a2 a3 a4) (spec_PathFrom.f (k + 1) a0 a1 a2 a3 a4) := by
  intro a0 a1 a2 a3 a4 k
  obtain ⟨ih0, ih1, ih2, ih3, ih4⟩ := spec_PathFrom.mono_l k
  unfold spec_PathFrom.f
  repeat' first
      | (with_reducible exact ih0 _ _ _ _ _ _)
      | (with_reducible exact ih1 _ _ _ _ _ _ _ _ _)
      | (with_reducible exact ih2 _ _ _ _ _ _ _ _)
      | (with_reducible exact ih3 _ _ _ _ _ _ _ _ _ _)
      | (with_reducible exact ih4 _ _ _)
      | (with_reducible exact spec_GraphOk.mono _ _ _ _)
      | (with_reducible exact LeO.refl _)
      | (with_reducible exact LeO.none _)
      | (with_reducible refine LeO.ite ?_ ?_)
      | (with_reducible refine LeO.bind ?_ (fun _ => ?_))
      | exact ih0 _ _ _ _ _ _
      | exact ih1 _ _ _ _ _ _ _ _ _
      | exact ih2 _ _ _ _ _ _ _ _
      | exact ih3 _ _ _ _ _ _ _ _ _ _
      | exact ih4 _ _ _
      | exact spec_GraphOk.mono _ _ _ _
      | exact LeO.none _
      | refine LeO.ite ?_ ?_
      | refine LeO.bind ?_ (fun _ => ?_)
def spec_PathFrom.T17 : Bool × List (List Nat × List Nat) := (true, [([], []), ([0], [0]), ([], []), ([], []), ([2, 3], [2, 3]), ([4], [4]), ([1, 5], [1, 5]), ([6], [6]), ([7], [7]), ([8, 0, 1, 2, 3, 4, 5, 6, 7, 8], [8])])
def spec_PathFrom.B17 : List Nat := [0, 1, 0, 0, 12, 28, 63, 127, 255, 511]
theorem spec_PathFrom.tab17 : rtab .any (opsOf Try.f27 17) = spec_PathFrom.T17 := by kernel_rfl
theorem spec_PathFrom.bits17 : waitsOk spec_PathFrom.T17.2 spec_PathFrom.B17 = true := by kernel_rfl
def spec_PathFrom.T23 : Bool × List (List Nat × List Nat) := (true, [([], []), ([], []), ([], []), ([1, 2], [1, 2]), ([3], [3]), ([], []), ([], []), ([5, 6], [5, 6]), ([7], [7]), ([0, 4, 0, 1, 2, 3, 4, 5, 6, 7, 8], [0, 4]), ([9, 8, 0, 1, 2, 3, 4, 5, 6, 7, 8], [8, 9])])
def spec_PathFrom.B23 : List Nat := [0, 0, 0, 6, 14, 0, 0, 96, 224, 511, 1023]
theorem spec_PathFrom.tab23 : rtab .any (opsOf Try.f27 23) = spec_PathFrom.T23 := by kernel_rfl
theorem spec_PathFrom.bits23 : waitsOk spec_PathFrom.T23.2 spec_PathFrom.B23 = true := by kernel_rfl
set_option maxHeartbeats 8000000 in
set_option maxRecDepth 100000 in
theorem spec_PathFrom.calls (k : Nat) (A0_0 : Option Addr) (c0_0 : Nat) (l0_0 : List (S50)) (A0_1 : Option Addr) (c0_1 : Nat) (l0_1 : List (List Int)) (A0_2 : Option Addr) (c0_2 : Nat) (l0_2 : List Int) (a1 : Int) (a2 : Int) (r1 : List Int) (r2 : Bool) (w : World) (hr0_0 : Kd.C k50 w A0_0 l0_0.length l0_0) (hc0_0 : l0_0.length ≤ c0_0) (hr0_1 : Kd.C (Kd.slice 3 (Kd.int .i64)) w A0_1 l0_1.length l0_1) (hc0_1 : l0_1.length ≤ c0_1) (hr0_2 : Kd.C (Kd.int .i64) w A0_2 l0_2.length l0_2) (hc0_2 : l0_2.length ≤ c0_2) (h : spec_PathFrom.f k l0_0 l0_1 l0_2 a1 a2 = some (r1, r2)) :
    Calls Try.prog 27 #[.agg #[.slice A0_0 l0_0.length c0_0, .slice A0_1 l0_1.length c0_1, .slice A0_2 l0_2.length c0_2], .int .i64 a1, .int .i64 a2] w fun e w' => ∃ v0_ : Value, e = .returned (.tuple #[v0_, .bool r2]) ∧ Kd.R (Kd.int .i64) 3 w' w.heap.size (fun _ => True) v0_ r1 ∧ Below w.heap.size w w' := by
  have hu26 := Try.underlying26
  have HR0_0 := Aside0.mk hr0_0
  have HC0_0 := Aside0.mk hc0_0
  clear hr0_0 hc0_0
  have HR0_1 := Aside0.mk hr0_1
  have HC0_1 := Aside0.mk hc0_1
  clear hr0_1 hc0_1
  have HR0_2 := Aside0.mk hr0_2
  have HC0_2 := Aside0.mk hc0_2
  clear hr0_2 hc0_2
  have HB := Aside0.mk (Below.refl w.heap.size w)
  have H : ((spec_GraphOk.f k l0_0 l0_1 l0_2).bind fun t188 => (if t188 = true then (if a1 < 0 then (spec_PathFrom.j0 k a1 a2 true l0_0 l0_1 l0_2) else (if a1 ≥ (l0_1.length : Int) then (spec_PathFrom.j0 k a1 a2 true l0_0 l0_1 l0_2) else (if a2 < 0 then (spec_PathFrom.j0 k a1 a2 true l0_0 l0_1 l0_2) else (spec_PathFrom.j0 k a1 a2 (decide (a2 ≥ (l0_0.length : Int))) l0_0 l0_1 l0_2)))) else (spec_PathFrom.j0 k a1 a2 true l0_0 l0_1 l0_2))) = some (r1, r2) := h
  clear h
  have HC4 := Aside0.mk H
  clear H
  go_enter Try.func27, Try.ntmps27
  go_upto_region 1 with (first | ((with_reducible refine gate_dst (N := 3) rfl ?_); (try (refine gate_guard (by rfl) ?_; dsimp only)); refine box_event ?hg (N := 3) ?hd (cs := #[.slice A0_0 l0_0.length c0_0, .slice A0_1 l0_1.length c0_1, .slice A0_2 l0_2.length c0_2]) (t := 26) ?hr ?_; (case hd => rfl); (case hg => rfl); (case hr => first | (go_simp; done) | (go_simp; rfl)); intro gb187 hg w5 hbox hb; have n0_ := Aside0.mk (below_step (by repeat (first | (with_reducible first | exact HB.out | apply below_alloc | apply pw_below_drewN | apply below_drew1) | exact HB.out)) hb); have n1_ := Aside0.mk (hbox); have n2_ := Aside0.mk ((by rw [hg]; exact (below_size (by repeat (first | (with_reducible first | exact HB.out | apply below_alloc | apply pw_below_drewN | apply below_drew1) | exact HB.out))) : w.heap.size ≤ gb187)); have n3_ := Aside0.mk ((by rw [hg]; exact (below_size (by repeat (first | (with_reducible first | exact HB.out | apply below_alloc | apply pw_below_drewN | apply below_drew1) | exact HB.out))) : w.heap.size ≤ gb187)); clear HB; have HB := n0_; have BK187 := n1_; have GW187 := n2_; have GE187 := n3_; clear n0_ n1_ n2_ n3_; clear hb hbox hg))
  (try simp only [Act.put, List.setIfInBounds_toArray, List.set_cons_zero, List.set_cons_succ])
  go_cut [42] (fun v42 wc => ∃ (kq : Nat) (x42_3 : Bool), v42 = .bool x42_3 ∧ Aside0 (spec_PathFrom.j0 kq a1 a2 x42_3 l0_0 l0_1 l0_2 = some (r1, r2)) ∧ Aside0 (kq ≤ k) ∧ Aside0 (wc.heap[gb187]? = some (.cells #[(.slice A0_0 l0_0.length c0_0), (.slice A0_1 l0_1.length c0_1), (.slice A0_2 l0_2.length c0_2)] 26 (0, 0))) ∧ Aside0 (Below w.heap.size w wc))
  case first =>
    have H := HC4.out
    clear HC4
    replace H := Option.bind_eq_some_iff.mp H
    obtain ⟨t188, A60, H⟩ := H
    replace H : (if t188 = true then (if a1 < 0 then (spec_PathFrom.j0 k a1 a2 true l0_0 l0_1 l0_2) else (if a1 ≥ (l0_1.length : Int) then (spec_PathFrom.j0 k a1 a2 true l0_0 l0_1 l0_2) else (if a2 < 0 then (spec_PathFrom.j0 k a1 a2 true l0_0 l0_1 l0_2) else (spec_PathFrom.j0 k a1 a2 (decide (a2 ≥ (l0_0.length : Int))) l0_0 l0_1 l0_2)))) else (spec_PathFrom.j0 k a1 a2 true l0_0 l0_1 l0_2)) = some (r1, r2) := H
    have A6 := Aside0.mk A60
    clear A60
    by_cases c7 : t188 = true
    · subst c7
      have H1 : (if a1 < 0 then (spec_PathFrom.j0 k a1 a2 true l0_0 l0_1 l0_2) else (if a1 ≥ (l0_1.length : Int) then (spec_PathFrom.j0 k a1 a2 true l0_0 l0_1 l0_2) else (if a2 < 0 then (spec_PathFrom.j0 k a1 a2 true l0_0 l0_1 l0_2) else (spec_PathFrom.j0 k a1 a2 (decide (a2 ≥ (l0_0.length : Int))) l0_0 l0_1 l0_2)))) = some (r1, r2) := by rw [if_pos rfl] at H; exact H
      clear H
      have H := H1
      clear H1
      by_cases c8 : a1 < 0
      · rw [if_pos c8] at H
        have c8b0 : decide (a1 < 0) = true := decide_eq_true c8
        clear c8
        (first | rw [c8b0] | (simp only [i64_w, i32_w]; rw [c8b0]) | skip)
        have H' := Aside0.mk H
        clear H
        have hcz9_0 : w5.cell? ⟨gb187, 0, none⟩ = some (.slice A0_0 l0_0.length c0_0) := (blk_cell BK187.out 0).trans rfl
        have hcz9_1 : w5.cell? ⟨gb187, 1, none⟩ = some (.slice A0_1 l0_1.length c0_1) := (blk_cell BK187.out 1).trans rfl
        have hcz9_2 : w5.cell? ⟨gb187, 2, none⟩ = some (.slice A0_2 l0_2.length c0_2) := (blk_cell BK187.out 2).trans rfl
        have hfz9_0 := blk_frozen BK187.out 0
        have hfz9_1 := blk_frozen BK187.out 1
        have hfz9_2 := blk_frozen BK187.out 2
        go_wp2_with (first | ((with_reducible refine gate_callee (f := 14) rfl ?_); refine goesL_ (some 19) rfl rfl Try.func14 (by kernel_rfl) rfl #[.agg #[.slice A0_0 l0_0.length c0_0, .slice A0_1 l0_1.length c0_1, .slice A0_2 l0_2.length c0_2]] rfl (by (try simp only [List.map_toArray, List.map_cons, List.map_nil]); first | done | rfl | (simp only [List.length_drop, List.length_take]; rfl)) ?_; (with_reducible refine (spec_GraphOk.calls k _ _ l0_0 _ _ l0_1 _ _ l0_2 true _ ?side1 ?side2 ?side3 ?side4 ?side5 ?side6 A6.out).mono ?_); (case side1 => repeat (first | exact (Kd.C_below HR0_0.out HB.out) | (with_reducible refine Kd.C_alloc ?_ _) | (with_reducible refine Kd.C_drewN ?_ _) | (with_reducible refine Kd.C_drew ?_))); (case side2 => exact HC0_0.out); (case side3 => repeat (first | exact (Kd.C_below HR0_1.out HB.out) | (with_reducible refine Kd.C_alloc ?_ _) | (with_reducible refine Kd.C_drewN ?_ _) | (with_reducible refine Kd.C_drew ?_))); (case side4 => exact HC0_1.out); (case side5 => repeat (first | exact (Kd.C_below HR0_2.out HB.out) | (with_reducible refine Kd.C_alloc ?_ _) | (with_reducible refine Kd.C_drewN ?_ _) | (with_reducible refine Kd.C_drew ?_))); (case side6 => exact HC0_2.out); rintro e w10 ⟨rfl, hb⟩; refine ⟨_, rfl, ?_⟩; have n0_ := Aside0.mk (blk_below (g := gb187) (o := .cells #[.slice A0_0 l0_0.length c0_0, .slice A0_1 l0_1.length c0_1, .slice A0_2 l0_2.length c0_2] 26 (0, 0)) (by (with_reducible repeat (first | refine blk_drewN ?_ _ | refine blk_drew ?_ | refine blk_alloc ?_ _)); exact BK187.out) hb); have n1_ := Aside0.mk (below_step (by repeat (first | (with_reducible first | exact HB.out | apply below_alloc | apply pw_below_drewN | apply below_drew1 | refine below_set ?_ GE187.out) | exact HB.out)) hb); clear BK187; clear HB; have BK187 := n0_; have HB := n1_; clear n0_ n1_; (try clear hb); (try clear hb2); (try clear hk); (try clear hi)))
        go_meet
        case rel => exact ⟨_, (true), (by first | rfl | (simp; done) | (simp [*]; done)), H', ⟨by first | omega | exact Nat.le_refl _⟩, ⟨by (with_reducible repeat (first | refine blk_drewN ?_ _ | refine blk_drew ?_ | refine blk_alloc ?_ _)); exact BK187.out⟩, ⟨by repeat (first | (with_reducible first | exact HB.out | apply below_alloc | apply pw_below_drewN | apply below_drew1 | refine below_set ?_ GE187.out) | exact HB.out)⟩⟩
      · rw [if_neg c8] at H
        have c8b0 : decide (a1 < 0) = false := decide_eq_false c8
        clear c8
        (first | rw [c8b0] | (simp only [i64_w, i32_w]; rw [c8b0]) | skip)
        by_cases c11 : a1 ≥ (l0_1.length : Int)
        · rw [if_pos c11] at H
          have c11b0 : decide ((l0_1.length : Int) ≤ a1) = true := decide_eq_true c11
          clear c11
          have H' := Aside0.mk H
          clear H
          have hcz12_0 : w5.cell? ⟨gb187, 0, none⟩ = some (.slice A0_0 l0_0.length c0_0) := (blk_cell BK187.out 0).trans rfl
          have hcz12_1 : w5.cell? ⟨gb187, 1, none⟩ = some (.slice A0_1 l0_1.length c0_1) := (blk_cell BK187.out 1).trans rfl
          have hcz12_2 : w5.cell? ⟨gb187, 2, none⟩ = some (.slice A0_2 l0_2.length c0_2) := (blk_cell BK187.out 2).trans rfl
          have hfz12_0 := blk_frozen BK187.out 0
          have hfz12_1 := blk_frozen BK187.out 1
          have hfz12_2 := blk_frozen BK187.out 2
          go_wp2_with (first | ((with_reducible refine gate_callee (f := 14) rfl ?_); refine goesL_ (some 19) rfl rfl Try.func14 (by kernel_rfl) rfl #[.agg #[.slice A0_0 l0_0.length c0_0, .slice A0_1 l0_1.length c0_1, .slice A0_2 l0_2.length c0_2]] rfl (by (try simp only [List.map_toArray, List.map_cons, List.map_nil]); first | done | rfl | (simp only [List.length_drop, List.length_take]; rfl)) ?_; (with_reducible refine (spec_GraphOk.calls k _ _ l0_0 _ _ l0_1 _ _ l0_2 true _ ?side1 ?side2 ?side3 ?side4 ?side5 ?side6 A6.out).mono ?_); (case side1 => repeat (first | exact (Kd.C_below HR0_0.out HB.out) | (with_reducible refine Kd.C_alloc ?_ _) | (with_reducible refine Kd.C_drewN ?_ _) | (with_reducible refine Kd.C_drew ?_))); (case side2 => exact HC0_0.out); (case side3 => repeat (first | exact (Kd.C_below HR0_1.out HB.out) | (with_reducible refine Kd.C_alloc ?_ _) | (with_reducible refine Kd.C_drewN ?_ _) | (with_reducible refine Kd.C_drew ?_))); (case side4 => exact HC0_1.out); (case side5 => repeat (first | exact (Kd.C_below HR0_2.out HB.out) | (with_reducible refine Kd.C_alloc ?_ _) | (with_reducible refine Kd.C_drewN ?_ _) | (with_reducible refine Kd.C_drew ?_))); (case side6 => exact HC0_2.out); rintro e w13 ⟨rfl, hb⟩; refine ⟨_, rfl, ?_⟩; have n0_ := Aside0.mk (blk_below (g := gb187) (o := .cells #[.slice A0_0 l0_0.length c0_0, .slice A0_1 l0_1.length c0_1, .slice A0_2 l0_2.length c0_2] 26 (0, 0)) (by (with_reducible repeat (first | refine blk_drewN ?_ _ | refine blk_drew ?_ | refine blk_alloc ?_ _)); exact BK187.out) hb); have n1_ := Aside0.mk (below_step (by repeat (first | (with_reducible first | exact HB.out | apply below_alloc | apply pw_below_drewN | apply below_drew1 | refine below_set ?_ GE187.out) | exact HB.out)) hb); clear BK187; clear HB; have BK187 := n0_; have HB := n1_; clear n0_ n1_; (try clear hb); (try clear hb2); (try clear hk); (try clear hi); have hcz14_0 : w13.cell? ⟨gb187, 0, none⟩ = some (.slice A0_0 l0_0.length c0_0) := (blk_cell BK187.out 0).trans rfl; have hcz14_1 : w13.cell? ⟨gb187, 1, none⟩ = some (.slice A0_1 l0_1.length c0_1) := (blk_cell BK187.out 1).trans rfl; have hcz14_2 : w13.cell? ⟨gb187, 2, none⟩ = some (.slice A0_2 l0_2.length c0_2) := (blk_cell BK187.out 2).trans rfl; have hfz14_0 := blk_frozen BK187.out 0; have hfz14_1 := blk_frozen BK187.out 1; have hfz14_2 := blk_frozen BK187.out 2))
          go_meet
          case rel => exact ⟨_, (true), (by first | rfl | (simp; done) | (simp [*]; done)), H', ⟨by first | omega | exact Nat.le_refl _⟩, ⟨by (with_reducible repeat (first | refine blk_drewN ?_ _ | refine blk_drew ?_ | refine blk_alloc ?_ _)); exact BK187.out⟩, ⟨by repeat (first | (with_reducible first | exact HB.out | apply below_alloc | apply pw_below_drewN | apply below_drew1 | refine below_set ?_ GE187.out) | exact HB.out)⟩⟩
        · rw [if_neg c11] at H
          have c11b0 : decide ((l0_1.length : Int) ≤ a1) = false := decide_eq_false c11
          clear c11
          by_cases c15 : a2 < 0
          · rw [if_pos c15] at H
            have c15b0 : decide (a2 < 0) = true := decide_eq_true c15
            clear c15
            have H' := Aside0.mk H
            clear H
            have hcz16_0 : w5.cell? ⟨gb187, 0, none⟩ = some (.slice A0_0 l0_0.length c0_0) := (blk_cell BK187.out 0).trans rfl
            have hcz16_1 : w5.cell? ⟨gb187, 1, none⟩ = some (.slice A0_1 l0_1.length c0_1) := (blk_cell BK187.out 1).trans rfl
            have hcz16_2 : w5.cell? ⟨gb187, 2, none⟩ = some (.slice A0_2 l0_2.length c0_2) := (blk_cell BK187.out 2).trans rfl
            have hfz16_0 := blk_frozen BK187.out 0
            have hfz16_1 := blk_frozen BK187.out 1
            have hfz16_2 := blk_frozen BK187.out 2
            go_wp2_with (first | ((with_reducible refine gate_callee (f := 14) rfl ?_); refine goesL_ (some 19) rfl rfl Try.func14 (by kernel_rfl) rfl #[.agg #[.slice A0_0 l0_0.length c0_0, .slice A0_1 l0_1.length c0_1, .slice A0_2 l0_2.length c0_2]] rfl (by (try simp only [List.map_toArray, List.map_cons, List.map_nil]); first | done | rfl | (simp only [List.length_drop, List.length_take]; rfl)) ?_; (with_reducible refine (spec_GraphOk.calls k _ _ l0_0 _ _ l0_1 _ _ l0_2 true _ ?side1 ?side2 ?side3 ?side4 ?side5 ?side6 A6.out).mono ?_); (case side1 => repeat (first | exact (Kd.C_below HR0_0.out HB.out) | (with_reducible refine Kd.C_alloc ?_ _) | (with_reducible refine Kd.C_drewN ?_ _) | (with_reducible refine Kd.C_drew ?_))); (case side2 => exact HC0_0.out); (case side3 => repeat (first | exact (Kd.C_below HR0_1.out HB.out) | (with_reducible refine Kd.C_alloc ?_ _) | (with_reducible refine Kd.C_drewN ?_ _) | (with_reducible refine Kd.C_drew ?_))); (case side4 => exact HC0_1.out); (case side5 => repeat (first | exact (Kd.C_below HR0_2.out HB.out) | (with_reducible refine Kd.C_alloc ?_ _) | (with_reducible refine Kd.C_drewN ?_ _) | (with_reducible refine Kd.C_drew ?_))); (case side6 => exact HC0_2.out); rintro e w17 ⟨rfl, hb⟩; refine ⟨_, rfl, ?_⟩; have n0_ := Aside0.mk (blk_below (g := gb187) (o := .cells #[.slice A0_0 l0_0.length c0_0, .slice A0_1 l0_1.length c0_1, .slice A0_2 l0_2.length c0_2] 26 (0, 0)) (by (with_reducible repeat (first | refine blk_drewN ?_ _ | refine blk_drew ?_ | refine blk_alloc ?_ _)); exact BK187.out) hb); have n1_ := Aside0.mk (below_step (by repeat (first | (with_reducible first | exact HB.out | apply below_alloc | apply pw_below_drewN | apply below_drew1 | refine below_set ?_ GE187.out) | exact HB.out)) hb); clear BK187; clear HB; have BK187 := n0_; have HB := n1_; clear n0_ n1_; (try clear hb); (try clear hb2); (try clear hk); (try clear hi); have hcz18_0 : w17.cell? ⟨gb187, 0, none⟩ = some (.slice A0_0 l0_0.length c0_0) := (blk_cell BK187.out 0).trans rfl; have hcz18_1 : w17.cell? ⟨gb187, 1, none⟩ = some (.slice A0_1 l0_1.length c0_1) := (blk_cell BK187.out 1).trans rfl; have hcz18_2 : w17.cell? ⟨gb187, 2, none⟩ = some (.slice A0_2 l0_2.length c0_2) := (blk_cell BK187.out 2).trans rfl; have hfz18_0 := blk_frozen BK187.out 0; have hfz18_1 := blk_frozen BK187.out 1; have hfz18_2 := blk_frozen BK187.out 2))
            go_meet
            case rel => exact ⟨_, (true), (by first | rfl | (simp; done) | (simp [*]; done)), H', ⟨by first | omega | exact Nat.le_refl _⟩, ⟨by (with_reducible repeat (first | refine blk_drewN ?_ _ | refine blk_drew ?_ | refine blk_alloc ?_ _)); exact BK187.out⟩, ⟨by repeat (first | (with_reducible first | exact HB.out | apply below_alloc | apply pw_below_drewN | apply below_drew1 | refine below_set ?_ GE187.out) | exact HB.out)⟩⟩
          · rw [if_neg c15] at H
            have c15b0 : decide (a2 < 0) = false := decide_eq_false c15
            clear c15
            have H' := Aside0.mk H
            clear H
            have hcz19_0 : w5.cell? ⟨gb187, 0, none⟩ = some (.slice A0_0 l0_0.length c0_0) := (blk_cell BK187.out 0).trans rfl
            have hcz19_1 : w5.cell? ⟨gb187, 1, none⟩ = some (.slice A0_1 l0_1.length c0_1) := (blk_cell BK187.out 1).trans rfl
            have hcz19_2 : w5.cell? ⟨gb187, 2, none⟩ = some (.slice A0_2 l0_2.length c0_2) := (blk_cell BK187.out 2).trans rfl
            have hfz19_0 := blk_frozen BK187.out 0
            have hfz19_1 := blk_frozen BK187.out 1
            have hfz19_2 := blk_frozen BK187.out 2
            go_wp2_with (first | ((with_reducible refine gate_callee (f := 14) rfl ?_); refine goesL_ (some 19) rfl rfl Try.func14 (by kernel_rfl) rfl #[.agg #[.slice A0_0 l0_0.length c0_0, .slice A0_1 l0_1.length c0_1, .slice A0_2 l0_2.length c0_2]] rfl (by (try simp only [List.map_toArray, List.map_cons, List.map_nil]); first | done | rfl | (simp only [List.length_drop, List.length_take]; rfl)) ?_; (with_reducible refine (spec_GraphOk.calls k _ _ l0_0 _ _ l0_1 _ _ l0_2 true _ ?side1 ?side2 ?side3 ?side4 ?side5 ?side6 A6.out).mono ?_); (case side1 => repeat (first | exact (Kd.C_below HR0_0.out HB.out) | (with_reducible refine Kd.C_alloc ?_ _) | (with_reducible refine Kd.C_drewN ?_ _) | (with_reducible refine Kd.C_drew ?_))); (case side2 => exact HC0_0.out); (case side3 => repeat (first | exact (Kd.C_below HR0_1.out HB.out) | (with_reducible refine Kd.C_alloc ?_ _) | (with_reducible refine Kd.C_drewN ?_ _) | (with_reducible refine Kd.C_drew ?_))); (case side4 => exact HC0_1.out); (case side5 => repeat (first | exact (Kd.C_below HR0_2.out HB.out) | (with_reducible refine Kd.C_alloc ?_ _) | (with_reducible refine Kd.C_drewN ?_ _) | (with_reducible refine Kd.C_drew ?_))); (case side6 => exact HC0_2.out); rintro e w20 ⟨rfl, hb⟩; refine ⟨_, rfl, ?_⟩; have n0_ := Aside0.mk (blk_below (g := gb187) (o := .cells #[.slice A0_0 l0_0.length c0_0, .slice A0_1 l0_1.length c0_1, .slice A0_2 l0_2.length c0_2] 26 (0, 0)) (by (with_reducible repeat (first | refine blk_drewN ?_ _ | refine blk_drew ?_ | refine blk_alloc ?_ _)); exact BK187.out) hb); have n1_ := Aside0.mk (below_step (by repeat (first | (with_reducible first | exact HB.out | apply below_alloc | apply pw_below_drewN | apply below_drew1 | refine below_set ?_ GE187.out) | exact HB.out)) hb); clear BK187; clear HB; have BK187 := n0_; have HB := n1_; clear n0_ n1_; (try clear hb); (try clear hb2); (try clear hk); (try clear hi); have hcz21_0 : w20.cell? ⟨gb187, 0, none⟩ = some (.slice A0_0 l0_0.length c0_0) := (blk_cell BK187.out 0).trans rfl; have hcz21_1 : w20.cell? ⟨gb187, 1, none⟩ = some (.slice A0_1 l0_1.length c0_1) := (blk_cell BK187.out 1).trans rfl; have hcz21_2 : w20.cell? ⟨gb187, 2, none⟩ = some (.slice A0_2 l0_2.length c0_2) := (blk_cell BK187.out 2).trans rfl; have hfz21_0 := blk_frozen BK187.out 0; have hfz21_1 := blk_frozen BK187.out 1; have hfz21_2 := blk_frozen BK187.out 2))
            go_meet
            case rel => exact ⟨_, (decide (a2 ≥ (l0_0.length : Int))), (by first | rfl | (simp; done) | (simp [*]; done)), H', ⟨by first | omega | exact Nat.le_refl _⟩, ⟨by (with_reducible repeat (first | refine blk_drewN ?_ _ | refine blk_drew ?_ | refine blk_alloc ?_ _)); exact BK187.out⟩, ⟨by repeat (first | (with_reducible first | exact HB.out | apply below_alloc | apply pw_below_drewN | apply below_drew1 | refine below_set ?_ GE187.out) | exact HB.out)⟩⟩
    · replace c7 := Bool.eq_false_iff.mpr c7
      subst c7
      have H1 : (spec_PathFrom.j0 k a1 a2 true l0_0 l0_1 l0_2) = some (r1, r2) := by rw [if_neg (show ¬ (false = true) by decide)] at H; exact H
      clear H
      have H := H1
      clear H1
      have H' := Aside0.mk H
      clear H
      have hcz22_0 : w5.cell? ⟨gb187, 0, none⟩ = some (.slice A0_0 l0_0.length c0_0) := (blk_cell BK187.out 0).trans rfl
      have hcz22_1 : w5.cell? ⟨gb187, 1, none⟩ = some (.slice A0_1 l0_1.length c0_1) := (blk_cell BK187.out 1).trans rfl
      have hcz22_2 : w5.cell? ⟨gb187, 2, none⟩ = some (.slice A0_2 l0_2.length c0_2) := (blk_cell BK187.out 2).trans rfl
      have hfz22_0 := blk_frozen BK187.out 0
      have hfz22_1 := blk_frozen BK187.out 1
      have hfz22_2 := blk_frozen BK187.out 2
      go_wp2_with (first | ((with_reducible refine gate_callee (f := 14) rfl ?_); refine goesL_ (some 19) rfl rfl Try.func14 (by kernel_rfl) rfl #[.agg #[.slice A0_0 l0_0.length c0_0, .slice A0_1 l0_1.length c0_1, .slice A0_2 l0_2.length c0_2]] rfl (by (try simp only [List.map_toArray, List.map_cons, List.map_nil]); first | done | rfl | (simp only [List.length_drop, List.length_take]; rfl)) ?_; (with_reducible refine (spec_GraphOk.calls k _ _ l0_0 _ _ l0_1 _ _ l0_2 false _ ?side1 ?side2 ?side3 ?side4 ?side5 ?side6 A6.out).mono ?_); (case side1 => repeat (first | exact (Kd.C_below HR0_0.out HB.out) | (with_reducible refine Kd.C_alloc ?_ _) | (with_reducible refine Kd.C_drewN ?_ _) | (with_reducible refine Kd.C_drew ?_))); (case side2 => exact HC0_0.out); (case side3 => repeat (first | exact (Kd.C_below HR0_1.out HB.out) | (with_reducible refine Kd.C_alloc ?_ _) | (with_reducible refine Kd.C_drewN ?_ _) | (with_reducible refine Kd.C_drew ?_))); (case side4 => exact HC0_1.out); (case side5 => repeat (first | exact (Kd.C_below HR0_2.out HB.out) | (with_reducible refine Kd.C_alloc ?_ _) | (with_reducible refine Kd.C_drewN ?_ _) | (with_reducible refine Kd.C_drew ?_))); (case side6 => exact HC0_2.out); rintro e w23 ⟨rfl, hb⟩; refine ⟨_, rfl, ?_⟩; have n0_ := Aside0.mk (blk_below (g := gb187) (o := .cells #[.slice A0_0 l0_0.length c0_0, .slice A0_1 l0_1.length c0_1, .slice A0_2 l0_2.length c0_2] 26 (0, 0)) (by (with_reducible repeat (first | refine blk_drewN ?_ _ | refine blk_drew ?_ | refine blk_alloc ?_ _)); exact BK187.out) hb); have n1_ := Aside0.mk (below_step (by repeat (first | (with_reducible first | exact HB.out | apply below_alloc | apply pw_below_drewN | apply below_drew1 | refine below_set ?_ GE187.out) | exact HB.out)) hb); clear BK187; clear HB; have BK187 := n0_; have HB := n1_; clear n0_ n1_; (try clear hb); (try clear hb2); (try clear hk); (try clear hi)))
      go_meet
      case rel => exact ⟨_, (true), (by first | rfl | (simp; done) | (simp [*]; done)), H', ⟨by first | omega | exact Nat.le_refl _⟩, ⟨by (with_reducible repeat (first | refine blk_drewN ?_ _ | refine blk_drew ?_ | refine blk_alloc ?_ _)); exact BK187.out⟩, ⟨by repeat (first | (with_reducible first | exact HB.out | apply below_alloc | apply pw_below_drewN | apply below_drew1 | refine below_set ?_ GE187.out) | exact HB.out)⟩⟩
  case rest =>
    clear HC4
    try clear c1
    try clear c2
    try clear p2
    try clear c7
    try clear c8
    try clear c8b0
    try clear c11
    try clear c11b0
    try clear c14
    try clear c15
    try clear c15b0
    try clear hcz12_0
    try clear hcz12_1
    try clear hcz12_2
    try clear hcz14_0
    try clear hcz14_1
    try clear hcz14_2
    try clear hcz16_0
    try clear hcz16_1
    try clear hcz16_2
    try clear hcz18_0
    try clear hcz18_1
    try clear hcz18_2
    try clear hcz19_0
    try clear hcz19_1
    try clear hcz19_2
    try clear hcz21_0
    try clear hcz21_1
    try clear hcz21_2
    try clear hcz22_0
    try clear hcz22_1
    try clear hcz22_2
    try clear hcz9_0
    try clear hcz9_1
    try clear hcz9_2
    try clear hfz12_0
    try clear hfz12_1
    try clear hfz12_2
    try clear hfz14_0
    try clear hfz14_1
    try clear hfz14_2
    try clear hfz16_0
    try clear hfz16_1
    try clear hfz16_2
    try clear hfz18_0
    try clear hfz18_1
    try clear hfz18_2
    try clear hfz19_0
    try clear hfz19_1
    try clear hfz19_2
    try clear hfz21_0
    try clear hfz21_1
    try clear hfz21_2
    try clear hfz22_0
    try clear hfz22_1
    try clear hfz22_2
    try clear hfz9_0
    try clear hfz9_1
    try clear hfz9_2
    obtain ⟨kq, x42_3, rfl, HA, HJ3, BK187, HB⟩ := hcut
    cases kq with
    | zero => exact absurd HA.out (by simp [spec_PathFrom.j0])
    | succ kj3 =>
      have H := HA.out
      clear HA
      simp only [spec_PathFrom.j0] at H
      by_cases c24 : x42_3 = true
      · subst c24
        have H1 : (some (([] : List Int), false)) = some (r1, r2) := by rw [if_pos rfl] at H; exact H
        clear H
        have H := H1
        clear H1
        simp only [Option.some.injEq, Prod.mk.injEq] at H
        obtain ⟨rfl, rfl⟩ := H
        go_wp2
        go_ret2
        exact ⟨_, by first | rfl | (simp [errW_none, errW_some] <;> rfl) | (simp [*, errW_none, errW_some] <;> rfl), by first | exact Kd.R_nil _ _ _ _ _ | exact Kd.N_nil _ _ _ _ _ | exact Kd.V_nil _ _ _ _ _ | exact Kd.Q_nil _ _ _ _ _ | exact Kd.S_nil _ _ _ _ _, by repeat (first | (with_reducible first | exact HB.out | apply below_alloc | apply pw_below_drewN | apply below_drew1 | refine below_set ?_ GE187.out) | exact HB.out)⟩
      · replace c24 := Bool.eq_false_iff.mpr c24
        subst c24
        have H1 : (if 0 ≤ (l0_0.length : Int) then (if ((l0_0.length : Int) : Int).toNat ≤ 35184372088832 then (if ((l0_0.length : Int) : Int).toNat ≤ 281474976710656 then (spec_PathFrom.l0 kj3 a1 a2 ([] : List Int) (List.replicate ((l0_0.length : Int) : Int).toNat 0) (List.replicate ((l0_0.length : Int) : Int).toNat false) 0 l0_0 l0_1 l0_2) else (none)) else (none)) else (none)) = some (r1, r2) := by rw [if_neg (show ¬ (false = true) by decide)] at H; exact H
        clear H
        have H := H1
        clear H1
        by_cases c25 : 0 ≤ (l0_0.length : Int)
        · rw [if_pos c25] at H
          have c25b0 := eq_true c25
          have c25b1 : decide (0 ≤ (l0_0.length : Int)) = true := decide_eq_true c25
          clear c25
          by_cases c26 : ((l0_0.length : Int) : Int).toNat ≤ 35184372088832
          · rw [if_pos c26] at H
            have c26b0 := eq_true c26
            have c26b1 : decide (((l0_0.length : Int) : Int).toNat ≤ 35184372088832) = true := decide_eq_true c26
            clear c26
            obtain ⟨y189, hy189⟩ : ∃ y_ : List Int, y_ = (List.replicate ((l0_0.length : Int) : Int).toNat 0) := ⟨_, rfl⟩
            replace H : (if ((l0_0.length : Int) : Int).toNat ≤ 281474976710656 then (spec_PathFrom.l0 kj3 a1 a2 ([] : List Int) y189 (List.replicate ((l0_0.length : Int) : Int).toNat false) 0 l0_0 l0_1 l0_2) else (none)) = some (r1, r2) := by first | (rw [hy189]; with_reducible exact H) | (have H2_ := (Option.bind_some _ _).symm.trans H; rw [hy189]; with_reducible exact H2_) | (have H2_ := (Option.bind_some _ _).symm.trans H; with_reducible exact H2_) | with_reducible exact H | (rw [hy189]; exact H) | exact H
            have Ny189 := Aside0.mk hy189
            clear hy189
            by_cases c27 : ((l0_0.length : Int) : Int).toNat ≤ 281474976710656
            · rw [if_pos c27] at H
              have c27b0 := eq_true c27
              have c27b1 : decide (((l0_0.length : Int) : Int).toNat ≤ 281474976710656) = true := decide_eq_true c27
              clear c27
              obtain ⟨y192, hy192⟩ : ∃ y_ : List Bool, y_ = (List.replicate ((l0_0.length : Int) : Int).toNat false) := ⟨_, rfl⟩
              replace H : (spec_PathFrom.l0 kj3 a1 a2 ([] : List Int) y189 y192 0 l0_0 l0_1 l0_2) = some (r1, r2) := by first | (rw [hy192]; with_reducible exact H) | (have H2_ := (Option.bind_some _ _).symm.trans H; rw [hy192]; with_reducible exact H2_) | (have H2_ := (Option.bind_some _ _).symm.trans H; with_reducible exact H2_) | with_reducible exact H | (rw [hy192]; exact H) | exact H
              have Ny192 := Aside0.mk hy192
              clear hy192
              have H' := Aside0.mk H
              clear H
              have hcz28_0 : wc.cell? ⟨gb187, 0, none⟩ = some (.slice A0_0 l0_0.length c0_0) := (blk_cell BK187.out 0).trans rfl
              have hcz28_1 : wc.cell? ⟨gb187, 1, none⟩ = some (.slice A0_1 l0_1.length c0_1) := (blk_cell BK187.out 1).trans rfl
              have hcz28_2 : wc.cell? ⟨gb187, 2, none⟩ = some (.slice A0_2 l0_2.length c0_2) := (blk_cell BK187.out 2).trans rfl
              have hfz28_0 := blk_frozen BK187.out 0
              have hfz28_1 := blk_frozen BK187.out 1
              have hfz28_2 := blk_frozen BK187.out 2
              go_wp2_with (first | ((with_reducible refine gate_dst (N := 46) rfl ?_); (try (refine gate_guard (by rfl) ?_; dsimp only)); refine Kd.R_make (Kd.int .i64) _ 3 rfl (N := 46) rfl 24 _ _ rfl (l0_0.length : Int) rfl rfl Try.underlying24 (.int .i64 0) 8 info3 rfl (by decide) (by omega) 0 (ok := fun _ => True) (okp := fun _ => True) rfl (fun _ hk => hk) trivial (of_decide_eq_true (by first | (with_reducible assumption) | assumption)) (Nat.le_trans (Nat.mul_le_mul_right _ (of_decide_eq_true (by first | (with_reducible assumption) | assumption) : (l0_0.length : Int).toNat ≤ 35184372088832)) (by omega)) (Below.refl _ _) (Nat.le_refl _) ?_; intro v190 w29 ho30 hb hg_ hnew_; clear hg_ hnew_; (first | rw [← Ny189.out] at ho30 | (simp only [Int.reduceToNat] at ho30; rw [← Ny189.out] at ho30)); have n0_ := Aside0.mk (Kd.R_lower ho30 (below_size (by repeat (first | (with_reducible first | exact HB.out | apply below_alloc | apply pw_below_drewN | apply below_drew1 | refine below_set ?_ GE187.out) | exact HB.out)))); have n1_ := Aside0.mk (blk_below (g := gb187) (o := .cells #[.slice A0_0 l0_0.length c0_0, .slice A0_1 l0_1.length c0_1, .slice A0_2 l0_2.length c0_2] 26 (0, 0)) (by (with_reducible repeat (first | refine blk_drewN ?_ _ | refine blk_drew ?_ | refine blk_alloc ?_ _)); exact BK187.out) hb); have n2_ := Aside0.mk (below_step (by repeat (first | (with_reducible first | exact HB.out | apply below_alloc | apply pw_below_drewN | apply below_drew1 | refine below_set ?_ GE187.out) | exact HB.out)) hb); clear BK187; clear HB; have HO191 := n0_; have BK187 := n1_; have HB := n2_; clear n0_ n1_ n2_; clear hb ho30; have hcz31_0 : w29.cell? ⟨gb187, 0, none⟩ = some (.slice A0_0 l0_0.length c0_0) := (blk_cell BK187.out 0).trans rfl; have hcz31_1 : w29.cell? ⟨gb187, 1, none⟩ = some (.slice A0_1 l0_1.length c0_1) := (blk_cell BK187.out 1).trans rfl; have hcz31_2 : w29.cell? ⟨gb187, 2, none⟩ = some (.slice A0_2 l0_2.length c0_2) := (blk_cell BK187.out 2).trans rfl; have hfz31_0 := blk_frozen BK187.out 0; have hfz31_1 := blk_frozen BK187.out 1; have hfz31_2 := blk_frozen BK187.out 2) | ((with_reducible refine gate_dst (N := 50) rfl ?_); (try (refine gate_guard (by rfl) ?_; dsimp only)); refine Kd.R_make Kd.bool _ 4 rfl (N := 50) rfl 39 _ _ rfl (l0_0.length : Int) rfl rfl Try.underlying39 (.bool false) 1 info4 rfl (by decide) (by omega) false (ok := fun _ => True) (okp := fun _ => True) rfl (fun _ hk => hk) trivial (of_decide_eq_true (by first | (with_reducible assumption) | assumption)) (Nat.le_trans (Nat.mul_le_mul_right _ (of_decide_eq_true (by first | (with_reducible assumption) | assumption) : (l0_0.length : Int).toNat ≤ 281474976710656)) (by omega)) (Below.refl _ _) (Nat.le_refl _) ?_; intro v193 w32 ho33 hb hg_ hnew_; clear hg_ hnew_; (first | rw [← Ny192.out] at ho33 | (simp only [Int.reduceToNat] at ho33; rw [← Ny192.out] at ho33)); have n0_ := Aside0.mk (Kd.R_below (by (with_reducible repeat (first | apply Kd.R_alloc | apply Kd.R_drewN | apply Kd.R_drew)); exact HO191.out) hb); have n1_ := Aside0.mk (Kd.R_lower ho33 (below_size (by repeat (first | (with_reducible first | exact HB.out | apply below_alloc | apply pw_below_drewN | apply below_drew1 | refine below_set ?_ GE187.out) | exact HB.out)))); have n2_ := Aside0.mk (blk_below (g := gb187) (o := .cells #[.slice A0_0 l0_0.length c0_0, .slice A0_1 l0_1.length c0_1, .slice A0_2 l0_2.length c0_2] 26 (0, 0)) (by (with_reducible repeat (first | refine blk_drewN ?_ _ | refine blk_drew ?_ | refine blk_alloc ?_ _)); exact BK187.out) hb); have n3_ := Aside0.mk (below_step (by repeat (first | (with_reducible first | exact HB.out | apply below_alloc | apply pw_below_drewN | apply below_drew1 | refine below_set ?_ GE187.out) | exact HB.out)) hb); clear HO191; clear BK187; clear HB; have HO191 := n0_; have HO194 := n1_; have BK187 := n2_; have HB := n3_; clear n0_ n1_ n2_ n3_; clear hb ho33))
              go_loopg [8, 11] kj3 (fun kq v8 v11 w' => ∃ (x8_2 : List Int) (x9_2 : List Int) (x10_2 : List Bool) (x11_2 : Int), v11 = .int .i64 x11_2 ∧ Aside0 (spec_PathFrom.l0 kq a1 a2 x8_2 x9_2 x10_2 x11_2 l0_0 l0_1 l0_2 = some (r1, r2)) ∧ Aside0 (kq ≤ kj3) ∧ Aside0 (Kd.R (Kd.int .i64) 3 w' w.heap.size (fun k_ => some k_ ≠ (v190 : Value).ownBlock) v8 x8_2) ∧ Aside0 (Kd.R (Kd.int .i64) 3 w' w.heap.size (fun k_ => some k_ ≠ (v8 : Value).ownBlock) v190 x9_2) ∧ Aside0 (Kd.R Kd.bool 4 w' w.heap.size (fun _ => True) v193 x10_2) ∧ Aside0 (w'.heap[gb187]? = some (.cells #[(.slice A0_0 l0_0.length c0_0), (.slice A0_1 l0_1.length c0_1), (.slice A0_2 l0_2.length c0_2)] 26 (0, 0))) ∧ Aside0 (Below w.heap.size w w'))
              case atStart => exact ⟨(([] : List Int)), (y189), (y192), (0), (by first | rfl | (simp; done) | (simp [*]; done)), H', ⟨Nat.le_refl _⟩, ⟨by first | exact Kd.R_nil _ _ _ _ _ | exact Kd.N_nil _ _ _ _ _ | exact Kd.V_nil _ _ _ _ _ | exact Kd.Q_nil _ _ _ _ _ | exact Kd.S_nil _ _ _ _ _⟩, ⟨by (with_reducible repeat (first | apply Kd.R_alloc | apply Kd.R_drewN | apply Kd.R_drew)); exact Kd.R_mono HO191.out (fun _ hk => (by simp [Value.ownBlock]))⟩, ⟨by (with_reducible repeat (first | apply Kd.R_alloc | apply Kd.R_drewN | apply Kd.R_drew)); exact HO194.out⟩, ⟨by (with_reducible repeat (first | refine blk_drewN ?_ _ | refine blk_drew ?_ | refine blk_alloc ?_ _)); exact BK187.out⟩, ⟨by repeat (first | (with_reducible first | exact HB.out | apply below_alloc | apply pw_below_drewN | apply below_drew1 | refine below_set ?_ GE187.out) | exact HB.out)⟩⟩
              case round =>
                clear H'
                try clear c1
                try clear c2
                try clear p2
                try clear c7
                try clear c8
                try clear c8b0
                try clear c11
                try clear c11b0
                try clear c14
                try clear c15
                try clear c15b0
                try clear c24
                try clear c25
                try clear c25b0
                try clear c25b1
                try clear c26
                try clear c26b0
                try clear c26b1
                try clear c27
                try clear c27b0
                try clear c27b1
                try clear hcz12_0
                try clear hcz12_1
                try clear hcz12_2
                try clear hcz14_0
                try clear hcz14_1
                try clear hcz14_2
                try clear hcz16_0
                try clear hcz16_1
                try clear hcz16_2
                try clear hcz18_0
                try clear hcz18_1
                try clear hcz18_2
                try clear hcz19_0
                try clear hcz19_1
                try clear hcz19_2
                try clear hcz21_0
                try clear hcz21_1
                try clear hcz21_2
                try clear hcz22_0
                try clear hcz22_1
                try clear hcz22_2
                try clear hcz28_0
                try clear hcz28_1
                try clear hcz28_2
                try clear hcz31_0
                try clear hcz31_1
                try clear hcz31_2
                try clear hcz9_0
                try clear hcz9_1
                try clear hcz9_2
                try clear hfz12_0
                try clear hfz12_1
                try clear hfz12_2
                try clear hfz14_0
                try clear hfz14_1
                try clear hfz14_2
                try clear hfz16_0
                try clear hfz16_1
                try clear hfz16_2
                try clear hfz18_0
                try clear hfz18_1
                try clear hfz18_2
                try clear hfz19_0
                try clear hfz19_1
                try clear hfz19_2
                try clear hfz21_0
                try clear hfz21_1
                try clear hfz21_2
                try clear hfz22_0
                try clear hfz22_1
                try clear hfz22_2
                try clear hfz28_0
                try clear hfz28_1
                try clear hfz28_2
                try clear hfz31_0
                try clear hfz31_1
                try clear hfz31_2
                try clear hfz9_0
                try clear hfz9_1
                try clear hfz9_2
                try clear p2
                obtain ⟨x8_2, x9_2, x10_2, x11_2, rfl, HA, HK2, HO_8, HO_9, HO_10, BK187, HB⟩ := hrel
                cases gk with
                | zero => exact absurd HA.out (by simp [spec_PathFrom.l0])
                | succ k2 =>
                  have H := HA.out
                  clear HA
                  simp only [spec_PathFrom.l0] at H
                  by_cases c34 : 0 ≤ a1
                  · rw [if_pos c34] at H
                    have c34b0 : decide (0 ≤ a1) = true := decide_eq_true c34
                    clear c34
                    by_cases c35 : a1 < (l0_1.length : Int)
                    · rw [if_pos c35] at H
                      have c35b0 : decide (a1 < (l0_1.length : Int)) = true := decide_eq_true c35
                      clear c35
                      by_cases c36 : x11_2 < ((rd_L1 l0_1 a1).length : Int)
                      · rw [if_pos c36] at H
                        have c36b0 : decide (x11_2 < ((rd_L1 l0_1 a1).length : Int)) = true := decide_eq_true c36
                        clear c36
                        by_cases c37 : 0 ≤ x11_2
                        · rw [if_pos c37] at H
                          have c37b0 : decide (0 ≤ x11_2) = true := decide_eq_true c37
                          clear c37
                          by_cases c38 : (rd (rd_L1 l0_1 a1) x11_2) ≥ 0
                          · rw [if_pos c38] at H
                            have c38b0 : decide (0 ≤ (rd (rd_L1 l0_1 a1) x11_2)) = true := decide_eq_true c38
                            clear c38
                            by_cases c39 : 0 ≤ (rd (rd_L1 l0_1 a1) x11_2)
                            · rw [if_pos c39] at H
                              have c39b0 : decide (0 ≤ (rd (rd_L1 l0_1 a1) x11_2)) = true := decide_eq_true c39
                              clear c39
                              by_cases c40 : (rd (rd_L1 l0_1 a1) x11_2) < (x10_2.length : Int)
                              · rw [if_pos c40] at H
                                have c40b0 : decide ((rd (rd_L1 l0_1 a1) x11_2) < (x10_2.length : Int)) = true := decide_eq_true c40
                                clear c40
                                obtain ⟨bq41, hbq41⟩ : ∃ b_ : Bool, b_ = (rdOf false x10_2 (rd (rd_L1 l0_1 a1) x11_2)) := ⟨_, rfl⟩
                                replace H : (if (bq41 = true) then (spec_PathFrom.l0 k2 a1 a2 x8_2 x9_2 x10_2 (wrap64 (x11_2 + 1)) l0_0 l0_1 l0_2) else (if (rd (rd_L1 l0_1 a1) x11_2) < (x9_2.length : Int) then (if x8_2.length < 17592186044416 then (spec_PathFrom.l0 k2 a1 a2 (x8_2 ++ [rd (rd_L1 l0_1 a1) x11_2]) (x9_2.set ((rd (rd_L1 l0_1 a1) x11_2) : Int).toNat (-1)) (x10_2.set ((rd (rd_L1 l0_1 a1) x11_2) : Int).toNat true) (wrap64 (x11_2 + 1)) l0_0 l0_1 l0_2) else (none)) else (none))) = some (r1, r2) := by rw [← hbq41] at H; exact H
                                have Nbq41 := Aside0.mk hbq41
                                clear hbq41
                                by_cases c42 : (bq41 = true)
                                · subst c42
                                  have H1 : (spec_PathFrom.l0 k2 a1 a2 x8_2 x9_2 x10_2 (wrap64 (x11_2 + 1)) l0_0 l0_1 l0_2) = some (r1, r2) := by rw [if_pos rfl] at H; exact H
                                  clear H
                                  have H := H1
                                  clear H1
                                  have H' := Aside0.mk H
                                  clear H
                                  have hcz43_0 : wr.cell? ⟨gb187, 0, none⟩ = some (.slice A0_0 l0_0.length c0_0) := (blk_cell BK187.out 0).trans rfl
                                  have hcz43_1 : wr.cell? ⟨gb187, 1, none⟩ = some (.slice A0_1 l0_1.length c0_1) := (blk_cell BK187.out 1).trans rfl
                                  have hcz43_2 : wr.cell? ⟨gb187, 2, none⟩ = some (.slice A0_2 l0_2.length c0_2) := (blk_cell BK187.out 2).trans rfl
                                  have hfz43_0 := blk_frozen BK187.out 0
                                  have hfz43_1 := blk_frozen BK187.out 1
                                  have hfz43_2 := blk_frozen BK187.out 2
                                  have p195 : 0 ≤ (a1 : Int) := of_decide_eq_true (by first | (with_reducible assumption) | assumption)
                                  have q195 : a1 < (l0_1.length : Int) := of_decide_eq_true (by first | (with_reducible assumption) | assumption)
                                  obtain ⟨ad195, A195_0, c195_0, e195, hx195_0, hl195_0, hi195_0⟩ := at_L1 HR0_1.out a1 p195 q195
                                  cases e195
                                  replace hx195_0 := (HB.out.cell (World.block_lt_of_cell? w _ hx195_0)).trans hx195_0
                                  have HR195_0 := Aside0.mk hi195_0
                                  have HC195_0 := Aside0.mk hl195_0
                                  clear hi195_0 hl195_0
                                  replace p195 := eq_true p195
                                  replace q195 := eq_true q195
                                  have p196 : 0 ≤ (a1 : Int) := of_decide_eq_true (by first | (with_reducible assumption) | assumption)
                                  have q196 : a1 < (l0_1.length : Int) := of_decide_eq_true (by first | (with_reducible assumption) | assumption)
                                  obtain ⟨ad196, A196_0, c196_0, e196, hx196_0, hl196_0, hi196_0⟩ := at_L1 HR0_1.out a1 p196 q196
                                  obtain rfl : ad195 = ad196 := (by injection e196)
                                  replace hx196_0 := (HB.out.cell (World.block_lt_of_cell? w _ hx196_0)).trans hx196_0
                                  have HR196_0 := Aside0.mk hi196_0
                                  have HC196_0 := Aside0.mk hl196_0
                                  clear hi196_0 hl196_0
                                  replace p196 := eq_true p196
                                  replace q196 := eq_true q196
                                  have ea_ := Option.some.inj (hx195_0.symm.trans hx196_0)
                                  injection ea_ with ea_ en_ ec_
                                  subst ea_
                                  subst ec_
                                  clear en_
                                  have p197 : 0 ≤ (x11_2 : Int) := of_decide_eq_true (by first | (with_reducible assumption) | assumption)
                                  have q197 : x11_2 < ((rd_L1 l0_1 a1).length : Int) := of_decide_eq_true (by first | (with_reducible assumption) | assumption)
                                  obtain ⟨ad197, e197, hx197_0⟩ := Kd.at_int HR196_0.out x11_2 p197 q197
                                  cases e197
                                  replace hx197_0 := (HB.out.cell (World.block_lt_of_cell? w _ hx197_0)).trans hx197_0
                                  replace p197 := eq_true p197
                                  replace q197 := eq_true q197
                                  obtain ⟨Ao44, co44, eo44⟩ := Kd.R_slice HO_10.out
                                  subst eo44
                                  have p198 : 0 ≤ ((rd (rd_L1 l0_1 a1) x11_2) : Int) := of_decide_eq_true (by first | (with_reducible assumption) | assumption)
                                  have q198 : (rd (rd_L1 l0_1 a1) x11_2) < (x10_2.length : Int) := of_decide_eq_true (by first | (with_reducible assumption) | assumption)
                                  obtain ⟨ad198, e198, hx198_0⟩ := Kd.at_bool (Kd.R_reads' HO_10.out).2.2 (rd (rd_L1 l0_1 a1) x11_2) p198 q198
                                  (try rw [← Nbq41.out] at hx198_0)
                                  cases e198
                                  replace p198 := eq_true p198
                                  replace q198 := eq_true q198
                                  go_wp2
                                  go_roundg k2
                                  case measure => have := HJ3.out; have := HK2.out; omega
                                  case rel => exact ⟨(x8_2), (x9_2), (x10_2), (wrap64 (x11_2 + 1)), (by first | rfl | (simp; done) | (simp [*]; done)), H', ⟨by have := HJ3.out; have := HK2.out; omega⟩, ⟨by (with_reducible repeat (first | apply Kd.R_alloc | apply Kd.R_drewN | apply Kd.R_drew)); exact HO_8.out⟩, ⟨by (with_reducible repeat (first | apply Kd.R_alloc | apply Kd.R_drewN | apply Kd.R_drew)); exact HO_9.out⟩, ⟨by (with_reducible repeat (first | apply Kd.R_alloc | apply Kd.R_drewN | apply Kd.R_drew)); exact HO_10.out⟩, ⟨by (with_reducible repeat (first | refine blk_drewN ?_ _ | refine blk_drew ?_ | refine blk_alloc ?_ _)); exact BK187.out⟩, ⟨by repeat (first | (with_reducible first | exact HB.out | apply below_alloc | apply pw_below_drewN | apply below_drew1 | refine below_set ?_ GE187.out) | exact HB.out)⟩⟩
                                · replace c42 := Bool.eq_false_iff.mpr c42
                                  subst c42
                                  have H1 : (if (rd (rd_L1 l0_1 a1) x11_2) < (x9_2.length : Int) then (if x8_2.length < 17592186044416 then (spec_PathFrom.l0 k2 a1 a2 (x8_2 ++ [rd (rd_L1 l0_1 a1) x11_2]) (x9_2.set ((rd (rd_L1 l0_1 a1) x11_2) : Int).toNat (-1)) (x10_2.set ((rd (rd_L1 l0_1 a1) x11_2) : Int).toNat true) (wrap64 (x11_2 + 1)) l0_0 l0_1 l0_2) else (none)) else (none)) = some (r1, r2) := by rw [if_neg (show ¬ (false = true) by decide)] at H; exact H
                                  clear H
                                  have H := H1
                                  clear H1
                                  obtain ⟨y199, hy199⟩ : ∃ y_ : List Bool, y_ = (x10_2.set ((rd (rd_L1 l0_1 a1) x11_2) : Int).toNat true) := ⟨_, rfl⟩
                                  replace H : (if (rd (rd_L1 l0_1 a1) x11_2) < (x9_2.length : Int) then (if x8_2.length < 17592186044416 then (spec_PathFrom.l0 k2 a1 a2 (x8_2 ++ [rd (rd_L1 l0_1 a1) x11_2]) (x9_2.set ((rd (rd_L1 l0_1 a1) x11_2) : Int).toNat (-1)) y199 (wrap64 (x11_2 + 1)) l0_0 l0_1 l0_2) else (none)) else (none)) = some (r1, r2) := by first | (rw [hy199]; with_reducible exact H) | (have H2_ := (Option.bind_some _ _).symm.trans H; rw [hy199]; with_reducible exact H2_) | (have H2_ := (Option.bind_some _ _).symm.trans H; with_reducible exact H2_) | with_reducible exact H | (rw [hy199]; exact H) | exact H
                                  have Ny199 := Aside0.mk hy199
                                  clear hy199
                                  by_cases c46 : (rd (rd_L1 l0_1 a1) x11_2) < (x9_2.length : Int)
                                  · rw [if_pos c46] at H
                                    have c46b0 : decide ((rd (rd_L1 l0_1 a1) x11_2) < (x9_2.length : Int)) = true := decide_eq_true c46
                                    clear c46
                                    obtain ⟨y200, hy200⟩ : ∃ y_ : List Int, y_ = (x9_2.set ((rd (rd_L1 l0_1 a1) x11_2) : Int).toNat (-1)) := ⟨_, rfl⟩
                                    replace H : (if x8_2.length < 17592186044416 then (spec_PathFrom.l0 k2 a1 a2 (x8_2 ++ [rd (rd_L1 l0_1 a1) x11_2]) y200 y199 (wrap64 (x11_2 + 1)) l0_0 l0_1 l0_2) else (none)) = some (r1, r2) := by first | (rw [hy200]; with_reducible exact H) | (have H2_ := (Option.bind_some _ _).symm.trans H; rw [hy200]; with_reducible exact H2_) | (have H2_ := (Option.bind_some _ _).symm.trans H; with_reducible exact H2_) | with_reducible exact H | (rw [hy200]; exact H) | exact H
                                    have Ny200 := Aside0.mk hy200
                                    clear hy200
                                    by_cases c48 : x8_2.length < 17592186044416
                                    · rw [if_pos c48] at H
                                      have LMc48 := Aside0.mk c48
                                      clear c48
                                      obtain ⟨y201, hy201⟩ : ∃ y_ : List Int, y_ = (x8_2 ++ [rd (rd_L1 l0_1 a1) x11_2]) := ⟨_, rfl⟩
                                      replace H : (spec_PathFrom.l0 k2 a1 a2 y201 y200 y199 (wrap64 (x11_2 + 1)) l0_0 l0_1 l0_2) = some (r1, r2) := by first | (rw [hy201]; with_reducible exact H) | (have H2_ := (Option.bind_some _ _).symm.trans H; rw [hy201]; with_reducible exact H2_) | (have H2_ := (Option.bind_some _ _).symm.trans H; with_reducible exact H2_) | with_reducible exact H | (rw [hy201]; exact H) | exact H
                                      have Ny201 := Aside0.mk hy201
                                      clear hy201
                                      have H' := Aside0.mk H
                                      clear H
                                      have hcz49_0 : wr.cell? ⟨gb187, 0, none⟩ = some (.slice A0_0 l0_0.length c0_0) := (blk_cell BK187.out 0).trans rfl
                                      have hcz49_1 : wr.cell? ⟨gb187, 1, none⟩ = some (.slice A0_1 l0_1.length c0_1) := (blk_cell BK187.out 1).trans rfl
                                      have hcz49_2 : wr.cell? ⟨gb187, 2, none⟩ = some (.slice A0_2 l0_2.length c0_2) := (blk_cell BK187.out 2).trans rfl
                                      have hfz49_0 := blk_frozen BK187.out 0
                                      have hfz49_1 := blk_frozen BK187.out 1
                                      have hfz49_2 := blk_frozen BK187.out 2
                                      have p195 : 0 ≤ (a1 : Int) := of_decide_eq_true (by first | (with_reducible assumption) | assumption)
                                      have q195 : a1 < (l0_1.length : Int) := of_decide_eq_true (by first | (with_reducible assumption) | assumption)
                                      obtain ⟨ad195, A195_0, c195_0, e195, hx195_0, hl195_0, hi195_0⟩ := at_L1 HR0_1.out a1 p195 q195
                                      cases e195
                                      replace hx195_0 := (HB.out.cell (World.block_lt_of_cell? w _ hx195_0)).trans hx195_0
                                      have HR195_0 := Aside0.mk hi195_0
                                      have HC195_0 := Aside0.mk hl195_0
                                      clear hi195_0 hl195_0
                                      replace p195 := eq_true p195
                                      replace q195 := eq_true q195
                                      have p196 : 0 ≤ (a1 : Int) := of_decide_eq_true (by first | (with_reducible assumption) | assumption)
                                      have q196 : a1 < (l0_1.length : Int) := of_decide_eq_true (by first | (with_reducible assumption) | assumption)
                                      obtain ⟨ad196, A196_0, c196_0, e196, hx196_0, hl196_0, hi196_0⟩ := at_L1 HR0_1.out a1 p196 q196
                                      obtain rfl : ad195 = ad196 := (by injection e196)
                                      replace hx196_0 := (HB.out.cell (World.block_lt_of_cell? w _ hx196_0)).trans hx196_0
                                      have HR196_0 := Aside0.mk hi196_0
                                      have HC196_0 := Aside0.mk hl196_0
                                      clear hi196_0 hl196_0
                                      replace p196 := eq_true p196
                                      replace q196 := eq_true q196
                                      have ea_ := Option.some.inj (hx195_0.symm.trans hx196_0)
                                      injection ea_ with ea_ en_ ec_
                                      subst ea_
                                      subst ec_
                                      clear en_
                                      have p197 : 0 ≤ (x11_2 : Int) := of_decide_eq_true (by first | (with_reducible assumption) | assumption)
                                      have q197 : x11_2 < ((rd_L1 l0_1 a1).length : Int) := of_decide_eq_true (by first | (with_reducible assumption) | assumption)
                                      obtain ⟨ad197, e197, hx197_0⟩ := Kd.at_int HR196_0.out x11_2 p197 q197
                                      cases e197
                                      replace hx197_0 := (HB.out.cell (World.block_lt_of_cell? w _ hx197_0)).trans hx197_0
                                      replace p197 := eq_true p197
                                      replace q197 := eq_true q197
                                      obtain ⟨Ao50, co50, eo50⟩ := Kd.R_slice HO_10.out
                                      subst eo50
                                      have p198 : 0 ≤ ((rd (rd_L1 l0_1 a1) x11_2) : Int) := of_decide_eq_true (by first | (with_reducible assumption) | assumption)
                                      have q198 : (rd (rd_L1 l0_1 a1) x11_2) < (x10_2.length : Int) := of_decide_eq_true (by first | (with_reducible assumption) | assumption)
                                      obtain ⟨ad198, e198, hx198_0⟩ := Kd.at_bool (Kd.R_reads' HO_10.out).2.2 (rd (rd_L1 l0_1 a1) x11_2) p198 q198
                                      (try rw [← Nbq41.out] at hx198_0)
                                      cases e198
                                      replace p198 := eq_true p198
                                      replace q198 := eq_true q198
                                      have p45 : 0 ≤ ((rd (rd_L1 l0_1 a1) x11_2) : Int) := of_decide_eq_true (by first | (with_reducible assumption) | assumption)
                                      have q45 : ((rd (rd_L1 l0_1 a1) x11_2) : Int) < ((x10_2.length : Int) : Int) := of_decide_eq_true (by first | (with_reducible assumption) | assumption)
                                      obtain ⟨go45, co45, eo45, gb45, gl45, cl45, HG45⟩ := Kd.R_form HO_10.out (by omega)
                                      (first | cases eo45 | (injection eo45 with ea_ en_ ec_; (first | subst ea_ | (injection ea_ with ea_; subst ea_)); subst ec_; clear en_))
                                      have GB45 := Aside0.mk gb45
                                      have GG45 := Aside0.mk HG45
                                      clear gb45 gl45 HG45
                                      (first | simp only [add_plain] at hx198_0 | skip)
                                      obtain ⟨hx45_0, hf45_0⟩ := Kd.R_celln false HO_10.out ((rd (rd_L1 l0_1 a1) x11_2) : Int) p45 q45
                                      replace p45 := eq_true p45
                                      replace q45 := eq_true q45
                                      have HP51 := Kd.R_putg HO_10.out ((rd (rd_L1 l0_1 a1) x11_2) : Int) true
                                      go_wp2_with (first | ((with_reducible refine gate_store (t := 4) (p := 80) rfl ?_); refine store_event (t := 4) (p := 80) (v := ?vo_w52) (w1 := (wr.setCell ⟨go45, ((rd (rd_L1 l0_1 a1) x11_2) : Int).toNat, none⟩ (.bool true))) ?hg ?ho ?hn ?hr ?_; (case ho => rfl); (case hg => rfl); (case hn => rfl); (case hr => first | (go_simp; done) | (go_simp; rfl)); intro w52 hw; have hg : wr.grownBy w52 (some go45) := (by rw [hw]; exact HP51.2); have hp_ : Kd.R Kd.bool 4 w52 w.heap.size (fun _ => True) (.slice (some ⟨go45, 0, none⟩) x10_2.length co50) y199 := (by rw [hw, Ny199.out]; exact HP51.1); clear HP51; have n0_ := Aside0.mk (Kd.R_over' (v := (.slice (some ⟨go45, 0, none⟩) x10_2.length co50)) (by (with_reducible repeat (first | apply Kd.R_alloc | apply Kd.R_drewN | apply Kd.R_drew)); exact HO_8.out) (Kd.R_typed HO_10.out) (by decide) hg); have n1_ := Aside0.mk (Kd.R_over' (v := (.slice (some ⟨go45, 0, none⟩) x10_2.length co50)) (by (with_reducible repeat (first | apply Kd.R_alloc | apply Kd.R_drewN | apply Kd.R_drew)); exact HO_9.out) (Kd.R_typed HO_10.out) (by decide) hg); have n2_ := Aside0.mk (hp_); have n3_ := Aside0.mk (blk_grown (g := gb187) (o := .cells #[.slice A0_0 l0_0.length c0_0, .slice (some ad195) l0_1.length c0_1, .slice A0_2 l0_2.length c0_2] 26 (0, 0)) (by (with_reducible repeat (first | refine blk_drewN ?_ _ | refine blk_drew ?_ | refine blk_alloc ?_ _)); exact BK187.out) hg (Kd.R_ne HO_10.out BK187.out (by decide))); have n4_ := Aside0.mk ((by rw [hw]; exact below_set (HB.out) GB45.out : Below w.heap.size w w52)); clear HO_8; clear HO_9; clear HO_10; clear BK187; clear HB; have HO_8 := n0_; have HO_9 := n1_; have HO_10 := n2_; have BK187 := n3_; have HB := n4_; clear n0_ n1_ n2_ n3_ n4_; clear hg hw hp_; have p47 : 0 ≤ ((rd (rd_L1 l0_1 a1) x11_2) : Int) := of_decide_eq_true (by first | (with_reducible assumption) | assumption); have q47 : ((rd (rd_L1 l0_1 a1) x11_2) : Int) < ((x9_2.length : Int) : Int) := of_decide_eq_true (by first | (with_reducible assumption) | assumption); obtain ⟨go47, co47, eo47, gb47, gl47, cl47, HG47⟩ := Kd.R_form HO_9.out (by omega); (first | cases eo47 | (injection eo47 with ea_ en_ ec_; (first | subst ea_ | (injection ea_ with ea_; subst ea_)); subst ec_; clear en_)); have GB47 := Aside0.mk gb47; have GG47 := Aside0.mk HG47; clear gb47 gl47 HG47; obtain ⟨hx47_0, hf47_0⟩ := Kd.R_celln 0 HO_9.out ((rd (rd_L1 l0_1 a1) x11_2) : Int) p47 q47; replace p47 := eq_true p47; replace q47 := eq_true q47; obtain ⟨hy53_, hz53_⟩ := Kd.R_celln 0 HO_9.out ((rd (rd_L1 l0_1 a1) x11_2) : Int) (of_decide_eq_true (by first | (with_reducible assumption) | assumption)) (of_decide_eq_true (by first | (with_reducible assumption) | assumption)); have HP53 := Kd.R_putg HO_9.out ((rd (rd_L1 l0_1 a1) x11_2) : Int) (-1)) | ((with_reducible refine gate_store (t := 3) (p := 83) rfl ?_); refine store_event (t := 3) (p := 83) (v := ?vo_w54) (w1 := (w52.setCell ⟨go47, ((rd (rd_L1 l0_1 a1) x11_2) : Int).toNat, none⟩ (.int .i64 (-1)))) ?hg ?ho ?hn ?hr ?_; (case ho => rfl); (case hg => rfl); (case hn => rfl); (case hr => first | (go_simp; done) | (go_simp; rfl)); intro w54 hw; have hg : w52.grownBy w54 (some go47) := (by rw [hw]; exact HP53.2); have hp_ : Kd.R (Kd.int .i64) 3 w54 w.heap.size (fun k_ => some k_ ≠ (u8 : Value).ownBlock) (.slice (some ⟨go47, 0, none⟩) x9_2.length co47) y200 := (by rw [hw, Ny200.out]; exact HP53.1); clear HP53; have n0_ := Aside0.mk (Kd.R_after (v := (.slice (some ⟨go47, 0, none⟩) x9_2.length co47)) (v1 := (.slice (some ⟨go47, 0, none⟩) x9_2.length co47)) (ok := (fun _ => True)) (by (with_reducible repeat (first | apply Kd.R_alloc | apply Kd.R_drewN | apply Kd.R_drew)); exact Kd.R_mono HO_8.out (fun _ hk => ⟨trivial, hk⟩)) hg (.inl rfl)); have n1_ := Aside0.mk (hp_); have n2_ := Aside0.mk (Kd.R_over' (v := (.slice (some ⟨go47, 0, none⟩) x9_2.length co47)) (by (with_reducible repeat (first | apply Kd.R_alloc | apply Kd.R_drewN | apply Kd.R_drew)); exact HO_10.out) (Kd.R_typed HO_9.out) (by decide) hg); have n3_ := Aside0.mk (blk_grown (g := gb187) (o := .cells #[.slice A0_0 l0_0.length c0_0, .slice (some ad195) l0_1.length c0_1, .slice A0_2 l0_2.length c0_2] 26 (0, 0)) (by (with_reducible repeat (first | refine blk_drewN ?_ _ | refine blk_drew ?_ | refine blk_alloc ?_ _)); exact BK187.out) hg (Kd.R_ne HO_9.out BK187.out (by decide))); have n4_ := Aside0.mk ((by rw [hw]; exact below_set (HB.out) GB47.out : Below w.heap.size w w54)); clear HO_8; clear HO_9; clear HO_10; clear BK187; clear HB; have HO_8 := n0_; have HO_9 := n1_; have HO_10 := n2_; have BK187 := n3_; have HB := n4_; clear n0_ n1_ n2_ n3_ n4_; clear hg hw hp_) | ((with_reducible refine gate_builtin (b := .append) (xs := #[.tmp 84, .tmp 86]) rfl ?_); (try (refine gate_guard (by rfl) ?_; dsimp only)); at_builtin; refine Kd.R_append (Kd.int .i64) (w0 := w) w.heap.size rfl (.tmp 84) (.tmp 86) 24 3 (.int .i64 0) 8 rfl Try.underlying24 info3 rfl (by decide) (by omega) u8 x8_2 (rd (rd_L1 l0_1 a1) x11_2) [.int .i64 (rd (rd_L1 l0_1 a1) x11_2)] (fun k_ => some k_ ≠ (.slice (some ⟨go47, 0, none⟩) x9_2.length co47 : Value).ownBlock) (fun _ => False) rfl rfl ?aP (fun _ hk => hk.elim) ?aF ?aO ?aB ?aS ?aL ?_; (case aP => exact rfl); (case aB => exact (by repeat (first | (with_reducible first | exact HB.out | apply below_alloc | apply pw_below_drewN | apply below_drew1 | refine below_set ?_ GE187.out) | exact HB.out))); (case aF => exact (fun k_ hk => Kd.fresh' (Kd.R_lt (by (with_reducible repeat (first | apply Kd.R_alloc | apply Kd.R_drewN | apply Kd.R_drew)); exact HO_9.out)) k_ hk)); (case aO => exact (by (with_reducible repeat (first | apply Kd.R_alloc | apply Kd.R_drewN | apply Kd.R_drew)); exact Kd.R_mono HO_8.out (fun _ hk => hk.2))); (case aS => exact (below_size (by repeat (first | (with_reducible first | exact HB.out | apply below_alloc | apply pw_below_drewN | apply below_drew1 | refine below_set ?_ GE187.out) | exact HB.out)))); (case aL => have := LMc48.out; omega); intro v202 w55 ho hb hg hat; rw [← Ny201.out] at ho; have n0_ := Aside0.mk (Kd.R_after (ok := (fun _ => True)) (by (with_reducible repeat (first | apply Kd.R_alloc | apply Kd.R_drewN | apply Kd.R_drew)); exact Kd.R_mono HO_9.out (fun _ hk => ⟨trivial, hk⟩)) hg hat); have n1_ := Aside0.mk (Kd.R_over' (by (with_reducible repeat (first | apply Kd.R_alloc | apply Kd.R_drewN | apply Kd.R_drew)); exact HO_10.out) (Kd.R_typed (by (with_reducible repeat (first | apply Kd.R_alloc | apply Kd.R_drewN | apply Kd.R_drew)); exact HO_8.out)) (by decide) hg); have n2_ := Aside0.mk (blk_grown (g := gb187) (o := .cells #[.slice A0_0 l0_0.length c0_0, .slice (some ad195) l0_1.length c0_1, .slice A0_2 l0_2.length c0_2] 26 (0, 0)) (by (with_reducible repeat (first | refine blk_drewN ?_ _ | refine blk_drew ?_ | refine blk_alloc ?_ _)); exact BK187.out) hg (Kd.R_ne HO_8.out BK187.out (by decide))); have n3_ := Aside0.mk (hb); have n4_ := Aside0.mk (ho); clear HO_9; clear HO_10; clear BK187; clear HB; clear HO_8; have HO_9 := n0_; have HO_10 := n1_; have BK187 := n2_; have HB := n3_; have HO203 := n4_; clear n0_ n1_ n2_ n3_ n4_; clear ho hb hg hat))
                                      go_roundg k2
                                      case measure => have := HJ3.out; have := HK2.out; omega
                                      case rel => exact ⟨(y201), (y200), (y199), (wrap64 (x11_2 + 1)), (by first | rfl | (simp; done) | (simp [*]; done)), H', ⟨by have := HJ3.out; have := HK2.out; omega⟩, ⟨by (with_reducible repeat (first | apply Kd.R_alloc | apply Kd.R_drewN | apply Kd.R_drew)); exact HO203.out⟩, ⟨by (with_reducible repeat (first | apply Kd.R_alloc | apply Kd.R_drewN | apply Kd.R_drew)); exact Kd.R_mono HO_9.out (fun _ hk => hk.2)⟩, ⟨by (with_reducible repeat (first | apply Kd.R_alloc | apply Kd.R_drewN | apply Kd.R_drew)); exact HO_10.out⟩, ⟨by (with_reducible repeat (first | refine blk_drewN ?_ _ | refine blk_drew ?_ | refine blk_alloc ?_ _)); exact BK187.out⟩, ⟨by repeat (first | (with_reducible first | exact HB.out | apply below_alloc | apply pw_below_drewN | apply below_drew1 | refine below_set ?_ GE187.out) | exact HB.out)⟩⟩
                                    · rw [if_neg c48] at H
                                      exact absurd H (by simp)
                                  · rw [if_neg c46] at H
                                    exact absurd H (by simp)
                              · rw [if_neg c40] at H
                                exact absurd H (by simp)
                            · rw [if_neg c39] at H
                              exact absurd H (by simp)
                          · rw [if_neg c38] at H
                            have c38b0 : decide (0 ≤ (rd (rd_L1 l0_1 a1) x11_2)) = false := decide_eq_false c38
                            clear c38
                            have H' := Aside0.mk H
                            clear H
                            have hcz56_0 : wr.cell? ⟨gb187, 0, none⟩ = some (.slice A0_0 l0_0.length c0_0) := (blk_cell BK187.out 0).trans rfl
                            have hcz56_1 : wr.cell? ⟨gb187, 1, none⟩ = some (.slice A0_1 l0_1.length c0_1) := (blk_cell BK187.out 1).trans rfl
                            have hcz56_2 : wr.cell? ⟨gb187, 2, none⟩ = some (.slice A0_2 l0_2.length c0_2) := (blk_cell BK187.out 2).trans rfl
                            have hfz56_0 := blk_frozen BK187.out 0
                            have hfz56_1 := blk_frozen BK187.out 1
                            have hfz56_2 := blk_frozen BK187.out 2
                            have p195 : 0 ≤ (a1 : Int) := of_decide_eq_true (by first | (with_reducible assumption) | assumption)
                            have q195 : a1 < (l0_1.length : Int) := of_decide_eq_true (by first | (with_reducible assumption) | assumption)
                            obtain ⟨ad195, A195_0, c195_0, e195, hx195_0, hl195_0, hi195_0⟩ := at_L1 HR0_1.out a1 p195 q195
                            cases e195
                            replace hx195_0 := (HB.out.cell (World.block_lt_of_cell? w _ hx195_0)).trans hx195_0
                            have HR195_0 := Aside0.mk hi195_0
                            have HC195_0 := Aside0.mk hl195_0
                            clear hi195_0 hl195_0
                            replace p195 := eq_true p195
                            replace q195 := eq_true q195
                            have p196 : 0 ≤ (a1 : Int) := of_decide_eq_true (by first | (with_reducible assumption) | assumption)
                            have q196 : a1 < (l0_1.length : Int) := of_decide_eq_true (by first | (with_reducible assumption) | assumption)
                            obtain ⟨ad196, A196_0, c196_0, e196, hx196_0, hl196_0, hi196_0⟩ := at_L1 HR0_1.out a1 p196 q196
                            obtain rfl : ad195 = ad196 := (by injection e196)
                            replace hx196_0 := (HB.out.cell (World.block_lt_of_cell? w _ hx196_0)).trans hx196_0
                            have HR196_0 := Aside0.mk hi196_0
                            have HC196_0 := Aside0.mk hl196_0
                            clear hi196_0 hl196_0
                            replace p196 := eq_true p196
                            replace q196 := eq_true q196
                            have ea_ := Option.some.inj (hx195_0.symm.trans hx196_0)
                            injection ea_ with ea_ en_ ec_
                            subst ea_
                            subst ec_
                            clear en_
                            have p197 : 0 ≤ (x11_2 : Int) := of_decide_eq_true (by first | (with_reducible assumption) | assumption)
                            have q197 : x11_2 < ((rd_L1 l0_1 a1).length : Int) := of_decide_eq_true (by first | (with_reducible assumption) | assumption)
                            obtain ⟨ad197, e197, hx197_0⟩ := Kd.at_int HR196_0.out x11_2 p197 q197
                            cases e197
                            replace hx197_0 := (HB.out.cell (World.block_lt_of_cell? w _ hx197_0)).trans hx197_0
                            replace p197 := eq_true p197
                            replace q197 := eq_true q197
                            go_wp2
                            go_roundg k2
                            case measure => have := HJ3.out; have := HK2.out; omega
                            case rel => exact ⟨(x8_2), (x9_2), (x10_2), (wrap64 (x11_2 + 1)), (by first | rfl | (simp; done) | (simp [*]; done)), H', ⟨by have := HJ3.out; have := HK2.out; omega⟩, ⟨by (with_reducible repeat (first | apply Kd.R_alloc | apply Kd.R_drewN | apply Kd.R_drew)); exact HO_8.out⟩, ⟨by (with_reducible repeat (first | apply Kd.R_alloc | apply Kd.R_drewN | apply Kd.R_drew)); exact HO_9.out⟩, ⟨by (with_reducible repeat (first | apply Kd.R_alloc | apply Kd.R_drewN | apply Kd.R_drew)); exact HO_10.out⟩, ⟨by (with_reducible repeat (first | refine blk_drewN ?_ _ | refine blk_drew ?_ | refine blk_alloc ?_ _)); exact BK187.out⟩, ⟨by repeat (first | (with_reducible first | exact HB.out | apply below_alloc | apply pw_below_drewN | apply below_drew1 | refine below_set ?_ GE187.out) | exact HB.out)⟩⟩
                        · rw [if_neg c37] at H
                          exact absurd H (by simp)
                      · rw [if_neg c36] at H
                        have c36b0 : decide (x11_2 < ((rd_L1 l0_1 a1).length : Int)) = false := decide_eq_false c36
                        clear c36
                        have H' := Aside0.mk H
                        clear H
                        have hcz57_0 : wr.cell? ⟨gb187, 0, none⟩ = some (.slice A0_0 l0_0.length c0_0) := (blk_cell BK187.out 0).trans rfl
                        have hcz57_1 : wr.cell? ⟨gb187, 1, none⟩ = some (.slice A0_1 l0_1.length c0_1) := (blk_cell BK187.out 1).trans rfl
                        have hcz57_2 : wr.cell? ⟨gb187, 2, none⟩ = some (.slice A0_2 l0_2.length c0_2) := (blk_cell BK187.out 2).trans rfl
                        have hfz57_0 := blk_frozen BK187.out 0
                        have hfz57_1 := blk_frozen BK187.out 1
                        have hfz57_2 := blk_frozen BK187.out 2
                        have p195 : 0 ≤ (a1 : Int) := of_decide_eq_true (by first | (with_reducible assumption) | assumption)
                        have q195 : a1 < (l0_1.length : Int) := of_decide_eq_true (by first | (with_reducible assumption) | assumption)
                        obtain ⟨ad195, A195_0, c195_0, e195, hx195_0, hl195_0, hi195_0⟩ := at_L1 HR0_1.out a1 p195 q195
                        cases e195
                        replace hx195_0 := (HB.out.cell (World.block_lt_of_cell? w _ hx195_0)).trans hx195_0
                        have HR195_0 := Aside0.mk hi195_0
                        have HC195_0 := Aside0.mk hl195_0
                        clear hi195_0 hl195_0
                        replace p195 := eq_true p195
                        replace q195 := eq_true q195
                        go_wp2
                        go_loopg [8, 13] k2 (fun kq v8 v13 w' => ∃ (x8_3 : List Int) (x9_3 : List Int) (x10_3 : List Bool) (x13_3 : Int), v13 = .int .i64 x13_3 ∧ Aside0 (spec_PathFrom.l1 kq a2 x8_3 x9_3 x10_3 x13_3 l0_0 l0_1 l0_2 = some (r1, r2)) ∧ Aside0 (kq ≤ k2) ∧ Aside0 (Kd.R (Kd.int .i64) 3 w' w.heap.size (fun k_ => some k_ ≠ (v190 : Value).ownBlock) v8 x8_3) ∧ Aside0 (Kd.R (Kd.int .i64) 3 w' w.heap.size (fun k_ => some k_ ≠ (v8 : Value).ownBlock) v190 x9_3) ∧ Aside0 (Kd.R Kd.bool 4 w' w.heap.size (fun _ => True) v193 x10_3) ∧ Aside0 (w'.heap[gb187]? = some (.cells #[(.slice A0_0 l0_0.length c0_0), (.slice (some ad195) l0_1.length c0_1), (.slice A0_2 l0_2.length c0_2)] 26 (0, 0))) ∧ Aside0 (Below w.heap.size w w'))
                        case atStart => exact ⟨(x8_2), (x9_2), (x10_2), (0), (by first | rfl | (simp; done) | (simp [*]; done)), H', ⟨Nat.le_refl _⟩, ⟨by (with_reducible repeat (first | apply Kd.R_alloc | apply Kd.R_drewN | apply Kd.R_drew)); exact HO_8.out⟩, ⟨by (with_reducible repeat (first | apply Kd.R_alloc | apply Kd.R_drewN | apply Kd.R_drew)); exact HO_9.out⟩, ⟨by (with_reducible repeat (first | apply Kd.R_alloc | apply Kd.R_drewN | apply Kd.R_drew)); exact HO_10.out⟩, ⟨by (with_reducible repeat (first | refine blk_drewN ?_ _ | refine blk_drew ?_ | refine blk_alloc ?_ _)); exact BK187.out⟩, ⟨by repeat (first | (with_reducible first | exact HB.out | apply below_alloc | apply pw_below_drewN | apply below_drew1 | refine below_set ?_ GE187.out) | exact HB.out)⟩⟩
                        case round =>
                          clear H'
                          try clear c1
                          try clear p1
                          try clear q1
                          try clear hx1
                          try clear c2
                          try clear p2
                          try clear c3
                          try clear c4
                          try clear p4
                          try clear q4
                          try clear hx4
                          try clear hf4
                          try clear p6
                          try clear c7
                          try clear c8
                          try clear c8b0
                          try clear c11
                          try clear c11b0
                          try clear c14
                          try clear c15
                          try clear c15b0
                          try clear c19
                          try clear p19
                          try clear q19
                          try clear hx19
                          try clear c24
                          try clear c25
                          try clear c25b0
                          try clear c25b1
                          try clear c26
                          try clear c26b0
                          try clear c26b1
                          try clear c27
                          try clear c27b0
                          try clear c27b1
                          try clear c34
                          try clear c34b0
                          try clear c35
                          try clear c35b0
                          try clear c36
                          try clear c36b0
                          try clear c37
                          try clear c37b0
                          try clear c38
                          try clear c38b0
                          try clear c39
                          try clear c39b0
                          try clear c40
                          try clear c40b0
                          try clear q41
                          try clear c42
                          try clear p45
                          try clear q45
                          try clear hx45
                          try clear hf45
                          try clear c46
                          try clear c46b0
                          try clear p47
                          try clear q47
                          try clear hx47
                          try clear hf47
                          try clear c48
                          try clear hcz12_0
                          try clear hcz12_1
                          try clear hcz12_2
                          try clear hcz14_0
                          try clear hcz14_1
                          try clear hcz14_2
                          try clear hcz16_0
                          try clear hcz16_1
                          try clear hcz16_2
                          try clear hcz18_0
                          try clear hcz18_1
                          try clear hcz18_2
                          try clear hcz19_0
                          try clear hcz19_1
                          try clear hcz19_2
                          try clear hcz21_0
                          try clear hcz21_1
                          try clear hcz21_2
                          try clear hcz22_0
                          try clear hcz22_1
                          try clear hcz22_2
                          try clear hcz28_0
                          try clear hcz28_1
                          try clear hcz28_2
                          try clear hcz31_0
                          try clear hcz31_1
                          try clear hcz31_2
                          try clear hcz43_0
                          try clear hcz43_1
                          try clear hcz43_2
                          try clear hcz49_0
                          try clear hcz49_1
                          try clear hcz49_2
                          try clear hcz56_0
                          try clear hcz56_1
                          try clear hcz56_2
                          try clear hcz57_0
                          try clear hcz57_1
                          try clear hcz57_2
                          try clear hcz9_0
                          try clear hcz9_1
                          try clear hcz9_2
                          try clear hfz12_0
                          try clear hfz12_1
                          try clear hfz12_2
                          try clear hfz14_0
                          try clear hfz14_1
                          try clear hfz14_2
                          try clear hfz16_0
                          try clear hfz16_1
                          try clear hfz16_2
                          try clear hfz18_0
                          try clear hfz18_1
                          try clear hfz18_2
                          try clear hfz19_0
                          try clear hfz19_1
                          try clear hfz19_2
                          try clear hfz21_0
                          try clear hfz21_1
                          try clear hfz21_2
                          try clear hfz22_0
                          try clear hfz22_1
                          try clear hfz22_2
                          try clear hfz28_0
                          try clear hfz28_1
                          try clear hfz28_2
                          try clear hfz31_0
                          try clear hfz31_1
                          try clear hfz31_2
                          try clear hfz43_0
                          try clear hfz43_1
                          try clear hfz43_2
                          try clear hfz49_0
                          try clear hfz49_1
                          try clear hfz49_2
                          try clear hfz56_0
                          try clear hfz56_1
                          try clear hfz56_2
                          try clear hfz57_0
                          try clear hfz57_1
                          try clear hfz57_2
                          try clear hfz9_0
                          try clear hfz9_1
                          try clear hfz9_2
                          try clear hx195_0
                          try clear hx196_0
                          try clear hx197_0
                          try clear hx198_0
                          try clear hx45_0
                          try clear hx47_0
                          try clear p195
                          try clear p196
                          try clear p197
                          try clear p198
                          try clear p2
                          try clear p45
                          try clear p47
                          try clear q195
                          try clear q196
                          try clear q197
                          try clear q198
                          try clear q45
                          try clear q47
                          obtain ⟨x8_3, x9_3, x10_3, x13_3, rfl, HA, HK3, HO_8, HO_9, HO_10, BK187, HB⟩ := hrel
                          cases gk with
                          | zero => exact absurd HA.out (by simp [spec_PathFrom.l1])
                          | succ k3 =>
                            have H := HA.out
                            clear HA
                            simp only [spec_PathFrom.l1] at H
                            by_cases c58 : x13_3 < (x8_3.length : Int)
                            · rw [if_pos c58] at H
                              have c58b0 : decide (x13_3 < (x8_3.length : Int)) = true := decide_eq_true c58
                              clear c58
                              by_cases c59 : 0 ≤ x13_3
                              · rw [if_pos c59] at H
                                have c59b0 : decide (0 ≤ x13_3) = true := decide_eq_true c59
                                clear c59
                                by_cases c60 : 0 ≤ (rd x8_3 x13_3)
                                · rw [if_pos c60] at H
                                  have c60b0 : decide (0 ≤ (rd x8_3 x13_3)) = true := decide_eq_true c60
                                  clear c60
                                  by_cases c61 : (rd x8_3 x13_3) < (l0_0.length : Int)
                                  · rw [if_pos c61] at H
                                    have c61b0 : decide ((rd x8_3 x13_3) < (l0_0.length : Int)) = true := decide_eq_true c61
                                    clear c61
                                    have H' := Aside0.mk H
                                    clear H
                                    obtain ⟨Ao62, co62, eo62⟩ := Kd.R_slice HO_8.out
                                    subst eo62
                                    try go_wp2
                                    have n0_ := Aside0.mk (Kd.R_drew HO_8.out)
                                    have n1_ := Aside0.mk (Kd.R_drew HO_9.out)
                                    have n2_ := Aside0.mk (Kd.R_drew HO_10.out)
                                    have n3_ := Aside0.mk (blk_drew BK187.out)
                                    have n4_ := Aside0.mk (below_drew1 HB.out)
                                    clear HO_8
                                    clear HO_9
                                    clear HO_10
                                    clear BK187
                                    clear HB
                                    have HO_8 := n0_
                                    have HO_9 := n1_
                                    have HO_10 := n2_
                                    have BK187 := n3_
                                    have HB := n4_
                                    clear n0_ n1_ n2_ n3_ n4_
                                    have p204 : 0 ≤ (x13_3 : Int) := of_decide_eq_true (by first | (with_reducible assumption) | assumption)
                                    have q204 : x13_3 < (x8_3.length : Int) := of_decide_eq_true (by first | (with_reducible assumption) | assumption)
                                    obtain ⟨ad204, e204, hx204_0⟩ := Kd.at_int (Kd.R_reads' HO_8.out).2.2 x13_3 p204 q204
                                    cases e204
                                    replace p204 := eq_true p204
                                    replace q204 := eq_true q204
                                    have p205 : 0 ≤ ((rd x8_3 x13_3) : Int) := of_decide_eq_true (by first | (with_reducible assumption) | assumption)
                                    have q205 : (rd x8_3 x13_3) < (l0_0.length : Int) := of_decide_eq_true (by first | (with_reducible assumption) | assumption)
                                    obtain ⟨ad205, A205_0, c205_0, A205_1, c205_1, e205, hx205_0, hx205_1, hl205_0, hi205_0, hl205_1, hi205_1⟩ := at_T50 HR0_0.out (rd x8_3 x13_3) p205 q205
                                    have hw205_1 := hx205_1
                                    have hw205_0 := hx205_0
                                    cases e205
                                    replace hx205_0 := (HB.out.cell (World.block_lt_of_cell? w _ hx205_0)).trans hx205_0
                                    replace hx205_1 := (HB.out.cell (World.block_lt_of_cell? w _ hx205_1)).trans hx205_1
                                    have HR205_0 := Aside0.mk hi205_0
                                    have HC205_0 := Aside0.mk hl205_0
                                    clear hi205_0 hl205_0
                                    have HR205_1 := Aside0.mk hi205_1
                                    have HC205_1 := Aside0.mk hl205_1
                                    clear hi205_1 hl205_1
                                    replace p205 := eq_true p205
                                    replace q205 := eq_true q205
                                    refine start_ (n := 10) (S := fun w' => w'.cell? ⟨gb187, 0, none⟩ = some (.slice (some ad205) l0_0.length c0_0) ∧ w'.cell? ⟨gb187, 1, none⟩ = some (.slice (some ad195) l0_1.length c0_1) ∧ w'.cell? ⟨gb187, 2, none⟩ = some (.slice A0_2 l0_2.length c0_2) ∧ w'.cell? (ad204.add (x13_3).toNat) = some (.int .i64 (rd x8_3 x13_3)) ∧ w'.cell? (ad205.add (((rd x8_3 x13_3)).toNat * 2)) = some (.slice A205_0 ((rd_T50 l0_0 (rd x8_3 x13_3)).f0).length c205_0) ∧ w'.cell? ⟨(ad205.add (((rd x8_3 x13_3)).toNat * 2)).block, (ad205.add (((rd x8_3 x13_3)).toNat * 2)).off + 1, none⟩ = some (.slice A205_1 ((rd_T50 l0_0 (rd x8_3 x13_3)).f1).length c205_1)) (ds := []) #[false, false, false, false, false, false, false, false, false, false] (by kernel_rfl) rfl rfl ⟨(blk_cell BK187.out 0).trans rfl, (blk_cell BK187.out 1).trans rfl, (blk_cell BK187.out 2).trans rfl, hx204_0, ((HB.out.cell (World.block_lt_of_cell? w _ hw205_0)).trans hw205_0), ((HB.out.cell (World.block_lt_of_cell? w _ hw205_1)).trans hw205_1)⟩ (fun hHeld => ?_); refine with_tabW spec_PathFrom.tab17 spec_PathFrom.bits17 (fun HT_ HW_ => ?_)
                                    generalize wr.drew = w63 at HO_8 HO_9 HO_10 BK187 HB HR205_0 HR205_1 hx204_0 hx205_0 hx205_1 hHeld ⊢
                                    refine pure_ (i := 0) (N := some 94) (v := ?_) (a' := ?_) #[true, false, false, false, false, false, false, false, false, false] rfl rfl (any_of HT_.out (by kernel_rfl)) (fun _ _ _ h => h) (Or.inl ⟨by rfl, ?_⟩) ?_ ?_
                                    rotate_left
                                    · intro w'
                                      go_simp
                                      with_reducible rfl
                                    rotate_left
                                    · simp only [Act.put, List.setIfInBounds_toArray, List.set_cons_zero, List.set_cons_succ, i64_w, i32_w]
                                      rfl
                                    refine pure_ (i := 2) (N := some 96) (v := ?_) (a' := ?_) #[true, false, true, false, false, false, false, false, false, false] rfl rfl (any_of HT_.out (by kernel_rfl)) (fun _ _ _ h => h) (Or.inl ⟨by rfl, ?_⟩) ?_ ?_
                                    rotate_left
                                    · intro w'
                                      go_simp
                                      with_reducible rfl
                                    rotate_left
                                    · simp only [Act.put, List.setIfInBounds_toArray, List.set_cons_zero, List.set_cons_succ, i64_w, i32_w]
                                      rfl
                                    refine pure_ (i := 3) (N := some 97) (v := ?_) (a' := ?_) #[true, false, true, true, false, false, false, false, false, false] rfl rfl (any_of HT_.out (by kernel_rfl)) (fun _ _ _ h => h) (Or.inl ⟨by rfl, ?_⟩) ?_ ?_
                                    rotate_left
                                    · intro w'
                                      go_simp
                                      with_reducible rfl
                                    rotate_left
                                    · simp only [Act.put, List.setIfInBounds_toArray, List.set_cons_zero, List.set_cons_succ, i64_w, i32_w]
                                      rfl
                                    refine pure_ (i := 4) (N := some 98) (v := ?_) (a' := ?_) #[true, false, true, true, true, false, false, false, false, false] rfl rfl (any_of HT_.out (by kernel_rfl)) (fun _ _ _ h => h) (Or.inl ⟨by rfl, ?_⟩) ?_ ?_
                                    rotate_left
                                    · intro w'
                                      go_simp
                                      with_reducible rfl
                                    rotate_left
                                    · simp only [Act.put, List.setIfInBounds_toArray, List.set_cons_zero, List.set_cons_succ, i64_w, i32_w]
                                      rfl
                                    refine take_ (i := 1) (N := some 95) (v := ?_) (a' := ?_) #[true, true, true, true, true, false, false, false, false, false] rfl rfl (take_ofW HT_.out HW_.out (by kernel_rfl)) (fun _ _ _ h => h) (Or.inl ⟨by rfl, ?_⟩) hHeld ?_ ?_
                                    rotate_left
                                    · rintro w' ⟨s0, s1, s2, s3, s4, s5⟩
                                      go_simp
                                      with_reducible rfl
                                    rotate_left
                                    · simp only [Act.put, List.setIfInBounds_toArray, List.set_cons_zero, List.set_cons_succ, i64_w, i32_w]
                                      rfl
                                    refine take_ (i := 5) (N := some 99) (v := ?_) (a' := ?_) #[true, true, true, true, true, true, false, false, false, false] rfl rfl (take_ofW HT_.out HW_.out (by kernel_rfl)) (fun _ _ _ h => h) (Or.inl ⟨by rfl, ?_⟩) hHeld ?_ ?_
                                    rotate_left
                                    · rintro w' ⟨s0, s1, s2, s3, s4, s5⟩
                                      go_simp
                                      with_reducible rfl
                                    rotate_left
                                    · simp only [Act.put, List.setIfInBounds_toArray, List.set_cons_zero, List.set_cons_succ, i64_w, i32_w]
                                      rfl
                                    refine pure_ (i := 6) (N := some 100) (v := ?_) (a' := ?_) #[true, true, true, true, true, true, true, false, false, false] rfl rfl (any_of HT_.out (by kernel_rfl)) (fun _ _ _ h => h) (Or.inl ⟨by rfl, ?_⟩) ?_ ?_
                                    rotate_left
                                    · intro w'
                                      go_simp
                                      with_reducible rfl
                                    rotate_left
                                    · simp only [Act.put, List.setIfInBounds_toArray, List.set_cons_zero, List.set_cons_succ, i64_w, i32_w]
                                      rfl
                                    refine pure_ (i := 7) (N := some 101) (v := ?_) (a' := ?_) #[true, true, true, true, true, true, true, true, false, false] rfl rfl (any_of HT_.out (by kernel_rfl)) (fun _ _ _ h => h) (Or.inl ⟨by rfl, ?_⟩) ?_ ?_
                                    rotate_left
                                    · intro w'
                                      go_simp
                                      with_reducible rfl
                                    rotate_left
                                    · simp only [Act.put, List.setIfInBounds_toArray, List.set_cons_zero, List.set_cons_succ, i64_w, i32_w]
                                      rfl
                                    refine take_ (i := 8) (N := some 102) (v := ?_) (a' := ?_) #[true, true, true, true, true, true, true, true, true, false] rfl rfl (take_ofW HT_.out HW_.out (by kernel_rfl)) (fun _ _ _ h => h) (Or.inl ⟨by rfl, ?_⟩) hHeld ?_ ?_
                                    rotate_left
                                    · rintro w' ⟨s0, s1, s2, s3, s4, s5⟩
                                      go_simp
                                      with_reducible rfl
                                    rotate_left
                                    · simp only [Act.put, List.setIfInBounds_toArray, List.set_cons_zero, List.set_cons_succ, i64_w, i32_w]
                                      rfl
                                    refine pure_ (i := 9) (N := some 14) (v := ?_) (a' := ?_) #[true, true, true, true, true, true, true, true, true, true] rfl rfl (any_of HT_.out (by kernel_rfl)) (fun _ _ _ h => h) (Or.inl ⟨by rfl, ?_⟩) ?_ ?_
                                    rotate_left
                                    · intro w'
                                      go_simp
                                      with_reducible rfl
                                    rotate_left
                                    · simp only [Act.put, List.setIfInBounds_toArray, List.set_cons_zero, List.set_cons_succ, i64_w, i32_w]
                                      rfl
                                    refine done_ (done_of HT_.out (by kernel_rfl)) ?_
                                    try go_wp2
                                    go_loopg [8, 15] k3 (fun kq v8 v15 w' => ∃ (x8_4 : List Int) (x9_4 : List Int) (x10_4 : List Bool) (x15_4 : Int), v15 = .int .i64 x15_4 ∧ Aside0 (spec_PathFrom.l2 kq a2 x8_4 x9_4 x10_4 x13_3 ((rd_T50 l0_0 (rd x8_3 x13_3)).f0) x15_4 l0_0 l0_1 l0_2 = some (r1, r2)) ∧ Aside0 (kq ≤ k3) ∧ Aside0 (Kd.R (Kd.int .i64) 3 w' w.heap.size (fun k_ => some k_ ≠ (v190 : Value).ownBlock) v8 x8_4) ∧ Aside0 (Kd.R (Kd.int .i64) 3 w' w.heap.size (fun k_ => some k_ ≠ (v8 : Value).ownBlock) v190 x9_4) ∧ Aside0 (Kd.R Kd.bool 4 w' w.heap.size (fun _ => True) v193 x10_4) ∧ Aside0 (w'.heap[gb187]? = some (.cells #[(.slice (some ad205) l0_0.length c0_0), (.slice (some ad195) l0_1.length c0_1), (.slice A0_2 l0_2.length c0_2)] 26 (0, 0))) ∧ Aside0 (Below w.heap.size w w'))
                                    case atStart => exact ⟨(x8_3), (x9_3), (x10_3), (0), (by first | rfl | (simp; done) | (simp [*]; done)), H', ⟨Nat.le_refl _⟩, ⟨by (with_reducible repeat (first | apply Kd.R_alloc | apply Kd.R_drewN | apply Kd.R_drew)); exact HO_8.out⟩, ⟨by (with_reducible repeat (first | apply Kd.R_alloc | apply Kd.R_drewN | apply Kd.R_drew)); exact HO_9.out⟩, ⟨by (with_reducible repeat (first | apply Kd.R_alloc | apply Kd.R_drewN | apply Kd.R_drew)); exact HO_10.out⟩, ⟨by (with_reducible repeat (first | refine blk_drewN ?_ _ | refine blk_drew ?_ | refine blk_alloc ?_ _)); exact BK187.out⟩, ⟨by repeat (first | (with_reducible first | exact HB.out | apply below_alloc | apply pw_below_drewN | apply below_drew1 | refine below_set ?_ GE187.out) | exact HB.out)⟩⟩
                                    case round =>
                                      clear H'
                                      try clear c1
                                      try clear p1
                                      try clear q1
                                      try clear hx1
                                      try clear c2
                                      try clear p2
                                      try clear q2
                                      try clear hx2
                                      try clear c3
                                      try clear c4
                                      try clear p4
                                      try clear q4
                                      try clear hx4
                                      try clear hf4
                                      try clear c5
                                      try clear c6
                                      try clear p6
                                      try clear c7
                                      try clear c8
                                      try clear c8b0
                                      try clear c11
                                      try clear c11b0
                                      try clear c14
                                      try clear c15
                                      try clear c15b0
                                      try clear c19
                                      try clear p19
                                      try clear q19
                                      try clear hx19
                                      try clear c20
                                      try clear p20
                                      try clear q20
                                      try clear hx20
                                      try clear c24
                                      try clear c25
                                      try clear c25b0
                                      try clear c25b1
                                      try clear c26
                                      try clear c26b0
                                      try clear c26b1
                                      try clear c27
                                      try clear c27b0
                                      try clear c27b1
                                      try clear c34
                                      try clear c34b0
                                      try clear c35
                                      try clear c35b0
                                      try clear c36
                                      try clear c36b0
                                      try clear c37
                                      try clear c37b0
                                      try clear c38
                                      try clear c38b0
                                      try clear c39
                                      try clear c39b0
                                      try clear c40
                                      try clear c40b0
                                      try clear q41
                                      try clear c42
                                      try clear p45
                                      try clear q45
                                      try clear hx45
                                      try clear hf45
                                      try clear c46
                                      try clear c46b0
                                      try clear p47
                                      try clear q47
                                      try clear hx47
                                      try clear hf47
                                      try clear c48
                                      try clear c58
                                      try clear c58b0
                                      try clear c59
                                      try clear c59b0
                                      try clear c60
                                      try clear c60b0
                                      try clear c61
                                      try clear c61b0
                                      try clear hcz12_0
                                      try clear hcz12_1
                                      try clear hcz12_2
                                      try clear hcz14_0
                                      try clear hcz14_1
                                      try clear hcz14_2
                                      try clear hcz16_0
                                      try clear hcz16_1
                                      try clear hcz16_2
                                      try clear hcz18_0
                                      try clear hcz18_1
                                      try clear hcz18_2
                                      try clear hcz19_0
                                      try clear hcz19_1
                                      try clear hcz19_2
                                      try clear hcz21_0
                                      try clear hcz21_1
                                      try clear hcz21_2
                                      try clear hcz22_0
                                      try clear hcz22_1
                                      try clear hcz22_2
                                      try clear hcz28_0
                                      try clear hcz28_1
                                      try clear hcz28_2
                                      try clear hcz31_0
                                      try clear hcz31_1
                                      try clear hcz31_2
                                      try clear hcz43_0
                                      try clear hcz43_1
                                      try clear hcz43_2
                                      try clear hcz49_0
                                      try clear hcz49_1
                                      try clear hcz49_2
                                      try clear hcz56_0
                                      try clear hcz56_1
                                      try clear hcz56_2
                                      try clear hcz57_0
                                      try clear hcz57_1
                                      try clear hcz57_2
                                      try clear hcz9_0
                                      try clear hcz9_1
                                      try clear hcz9_2
                                      try clear hfz12_0
                                      try clear hfz12_1
                                      try clear hfz12_2
                                      try clear hfz14_0
                                      try clear hfz14_1
                                      try clear hfz14_2
                                      try clear hfz16_0
                                      try clear hfz16_1
                                      try clear hfz16_2
                                      try clear hfz18_0
                                      try clear hfz18_1
                                      try clear hfz18_2
                                      try clear hfz19_0
                                      try clear hfz19_1
                                      try clear hfz19_2
                                      try clear hfz21_0
                                      try clear hfz21_1
                                      try clear hfz21_2
                                      try clear hfz22_0
                                      try clear hfz22_1
                                      try clear hfz22_2
                                      try clear hfz28_0
                                      try clear hfz28_1
                                      try clear hfz28_2
                                      try clear hfz31_0
                                      try clear hfz31_1
                                      try clear hfz31_2
                                      try clear hfz43_0
                                      try clear hfz43_1
                                      try clear hfz43_2
                                      try clear hfz49_0
                                      try clear hfz49_1
                                      try clear hfz49_2
                                      try clear hfz56_0
                                      try clear hfz56_1
                                      try clear hfz56_2
                                      try clear hfz57_0
                                      try clear hfz57_1
                                      try clear hfz57_2
                                      try clear hfz9_0
                                      try clear hfz9_1
                                      try clear hfz9_2
                                      try clear hx195_0
                                      try clear hx196_0
                                      try clear hx197_0
                                      try clear hx198_0
                                      try clear hx204_0
                                      try clear hx205_0
                                      try clear hx205_1
                                      try clear hx45_0
                                      try clear hx47_0
                                      try clear p1
                                      try clear p19
                                      try clear p195
                                      try clear p196
                                      try clear p197
                                      try clear p198
                                      try clear p2
                                      try clear p204
                                      try clear p205
                                      try clear p4
                                      try clear p45
                                      try clear p47
                                      try clear p6
                                      try clear q1
                                      try clear q19
                                      try clear q195
                                      try clear q196
                                      try clear q197
                                      try clear q198
                                      try clear q204
                                      try clear q205
                                      try clear q4
                                      try clear q41
                                      try clear q45
                                      try clear q47
                                      obtain ⟨x8_4, x9_4, x10_4, x15_4, rfl, HA, HK4, HO_8, HO_9, HO_10, BK187, HB⟩ := hrel
                                      cases gk with
                                      | zero => exact absurd HA.out (by simp [spec_PathFrom.l2])
                                      | succ k4 =>
                                        have H := HA.out
                                        clear HA
                                        simp only [spec_PathFrom.l2] at H
                                        by_cases c64 : x15_4 < (((rd_T50 l0_0 (rd x8_3 x13_3)).f0).length : Int)
                                        · rw [if_pos c64] at H
                                          have c64b0 : decide (x15_4 < (((rd_T50 l0_0 (rd x8_3 x13_3)).f0).length : Int)) = true := decide_eq_true c64
                                          clear c64
                                          by_cases c65 : 0 ≤ x15_4
                                          · rw [if_pos c65] at H
                                            have c65b0 : decide (0 ≤ x15_4) = true := decide_eq_true c65
                                            clear c65
                                            by_cases c66 : (rd ((rd_T50 l0_0 (rd x8_3 x13_3)).f0) x15_4) ≥ 0
                                            · rw [if_pos c66] at H
                                              have c66b0 : decide (0 ≤ (rd ((rd_T50 l0_0 (rd x8_3 x13_3)).f0) x15_4)) = true := decide_eq_true c66
                                              clear c66
                                              by_cases c67 : 0 ≤ (rd ((rd_T50 l0_0 (rd x8_3 x13_3)).f0) x15_4)
                                              · rw [if_pos c67] at H
                                                have c67b0 : decide (0 ≤ (rd ((rd_T50 l0_0 (rd x8_3 x13_3)).f0) x15_4)) = true := decide_eq_true c67
                                                clear c67
                                                by_cases c68 : (rd ((rd_T50 l0_0 (rd x8_3 x13_3)).f0) x15_4) < (x10_4.length : Int)
                                                · rw [if_pos c68] at H
                                                  have c68b0 : decide ((rd ((rd_T50 l0_0 (rd x8_3 x13_3)).f0) x15_4) < (x10_4.length : Int)) = true := decide_eq_true c68
                                                  clear c68
                                                  obtain ⟨bq69, hbq69⟩ : ∃ b_ : Bool, b_ = (rdOf false x10_4 (rd ((rd_T50 l0_0 (rd x8_3 x13_3)).f0) x15_4)) := ⟨_, rfl⟩
                                                  replace H : (if (bq69 = true) then (spec_PathFrom.l2 k4 a2 x8_4 x9_4 x10_4 x13_3 ((rd_T50 l0_0 (rd x8_3 x13_3)).f0) (wrap64 (x15_4 + 1)) l0_0 l0_1 l0_2) else (if 0 ≤ x13_3 then (if x13_3 < (x8_4.length : Int) then (if (rd ((rd_T50 l0_0 (rd x8_3 x13_3)).f0) x15_4) < (x9_4.length : Int) then (if x8_4.length < 17592186044416 then (spec_PathFrom.l2 k4 a2 (x8_4 ++ [rd ((rd_T50 l0_0 (rd x8_3 x13_3)).f0) x15_4]) (x9_4.set ((rd ((rd_T50 l0_0 (rd x8_3 x13_3)).f0) x15_4) : Int).toNat (rd x8_4 x13_3)) (x10_4.set ((rd ((rd_T50 l0_0 (rd x8_3 x13_3)).f0) x15_4) : Int).toNat true) x13_3 ((rd_T50 l0_0 (rd x8_3 x13_3)).f0) (wrap64 (x15_4 + 1)) l0_0 l0_1 l0_2) else (none)) else (none)) else (none)) else (none))) = some (r1, r2) := by rw [← hbq69] at H; exact H
                                                  have Nbq69 := Aside0.mk hbq69
                                                  clear hbq69
                                                  by_cases c70 : (bq69 = true)
                                                  · subst c70
                                                    have H1 : (spec_PathFrom.l2 k4 a2 x8_4 x9_4 x10_4 x13_3 ((rd_T50 l0_0 (rd x8_3 x13_3)).f0) (wrap64 (x15_4 + 1)) l0_0 l0_1 l0_2) = some (r1, r2) := by rw [if_pos rfl] at H; exact H
                                                    clear H
                                                    have H := H1
                                                    clear H1
                                                    have H' := Aside0.mk H
                                                    clear H
                                                    have p206 : 0 ≤ (x15_4 : Int) := of_decide_eq_true (by first | (with_reducible assumption) | assumption)
                                                    have q206 : x15_4 < (((rd_T50 l0_0 (rd x8_3 x13_3)).f0).length : Int) := of_decide_eq_true (by first | (with_reducible assumption) | assumption)
                                                    obtain ⟨ad206, e206, hx206_0⟩ := Kd.at_int HR205_0.out x15_4 p206 q206
                                                    cases e206
                                                    replace hx206_0 := (HB.out.cell (World.block_lt_of_cell? w _ hx206_0)).trans hx206_0
                                                    replace p206 := eq_true p206
                                                    replace q206 := eq_true q206
                                                    have p207 : 0 ≤ (x15_4 : Int) := of_decide_eq_true (by first | (with_reducible assumption) | assumption)
                                                    have q207 : x15_4 < (((rd_T50 l0_0 (rd x8_3 x13_3)).f0).length : Int) := of_decide_eq_true (by first | (with_reducible assumption) | assumption)
                                                    obtain ⟨ad207, e207, hx207_0⟩ := Kd.at_int HR205_0.out x15_4 p207 q207
                                                    obtain rfl : ad206 = ad207 := (by injection e207)
                                                    replace hx207_0 := (HB.out.cell (World.block_lt_of_cell? w _ hx207_0)).trans hx207_0
                                                    replace p207 := eq_true p207
                                                    replace q207 := eq_true q207
                                                    obtain ⟨Ao71, co71, eo71⟩ := Kd.R_slice HO_10.out
                                                    subst eo71
                                                    have p208 : 0 ≤ ((rd ((rd_T50 l0_0 (rd x8_3 x13_3)).f0) x15_4) : Int) := of_decide_eq_true (by first | (with_reducible assumption) | assumption)
                                                    have q208 : (rd ((rd_T50 l0_0 (rd x8_3 x13_3)).f0) x15_4) < (x10_4.length : Int) := of_decide_eq_true (by first | (with_reducible assumption) | assumption)
                                                    obtain ⟨ad208, e208, hx208_0⟩ := Kd.at_bool (Kd.R_reads' HO_10.out).2.2 (rd ((rd_T50 l0_0 (rd x8_3 x13_3)).f0) x15_4) p208 q208
                                                    (try rw [← Nbq69.out] at hx208_0)
                                                    cases e208
                                                    replace p208 := eq_true p208
                                                    replace q208 := eq_true q208
                                                    go_wp2
                                                    go_roundg k4
                                                    case measure => have := HJ3.out; have := HK2.out; have := HK3.out; have := HK4.out; omega
                                                    case rel => exact ⟨(x8_4), (x9_4), (x10_4), (wrap64 (x15_4 + 1)), (by first | rfl | (simp; done) | (simp [*]; done)), H', ⟨by have := HJ3.out; have := HK2.out; have := HK3.out; have := HK4.out; omega⟩, ⟨by (with_reducible repeat (first | apply Kd.R_alloc | apply Kd.R_drewN | apply Kd.R_drew)); exact HO_8.out⟩, ⟨by (with_reducible repeat (first | apply Kd.R_alloc | apply Kd.R_drewN | apply Kd.R_drew)); exact HO_9.out⟩, ⟨by (with_reducible repeat (first | apply Kd.R_alloc | apply Kd.R_drewN | apply Kd.R_drew)); exact HO_10.out⟩, ⟨by (with_reducible repeat (first | refine blk_drewN ?_ _ | refine blk_drew ?_ | refine blk_alloc ?_ _)); exact BK187.out⟩, ⟨by repeat (first | (with_reducible first | exact HB.out | apply below_alloc | apply pw_below_drewN | apply below_drew1 | refine below_set ?_ GE187.out) | exact HB.out)⟩⟩
                                                  · replace c70 := Bool.eq_false_iff.mpr c70
                                                    subst c70
                                                    have H1 : (if 0 ≤ x13_3 then (if x13_3 < (x8_4.length : Int) then (if (rd ((rd_T50 l0_0 (rd x8_3 x13_3)).f0) x15_4) < (x9_4.length : Int) then (if x8_4.length < 17592186044416 then (spec_PathFrom.l2 k4 a2 (x8_4 ++ [rd ((rd_T50 l0_0 (rd x8_3 x13_3)).f0) x15_4]) (x9_4.set ((rd ((rd_T50 l0_0 (rd x8_3 x13_3)).f0) x15_4) : Int).toNat (rd x8_4 x13_3)) (x10_4.set ((rd ((rd_T50 l0_0 (rd x8_3 x13_3)).f0) x15_4) : Int).toNat true) x13_3 ((rd_T50 l0_0 (rd x8_3 x13_3)).f0) (wrap64 (x15_4 + 1)) l0_0 l0_1 l0_2) else (none)) else (none)) else (none)) else (none)) = some (r1, r2) := by rw [if_neg (show ¬ (false = true) by decide)] at H; exact H
                                                    clear H
                                                    have H := H1
                                                    clear H1
                                                    obtain ⟨y210, hy210⟩ : ∃ y_ : List Bool, y_ = (x10_4.set ((rd ((rd_T50 l0_0 (rd x8_3 x13_3)).f0) x15_4) : Int).toNat true) := ⟨_, rfl⟩
                                                    replace H : (if 0 ≤ x13_3 then (if x13_3 < (x8_4.length : Int) then (if (rd ((rd_T50 l0_0 (rd x8_3 x13_3)).f0) x15_4) < (x9_4.length : Int) then (if x8_4.length < 17592186044416 then (spec_PathFrom.l2 k4 a2 (x8_4 ++ [rd ((rd_T50 l0_0 (rd x8_3 x13_3)).f0) x15_4]) (x9_4.set ((rd ((rd_T50 l0_0 (rd x8_3 x13_3)).f0) x15_4) : Int).toNat (rd x8_4 x13_3)) y210 x13_3 ((rd_T50 l0_0 (rd x8_3 x13_3)).f0) (wrap64 (x15_4 + 1)) l0_0 l0_1 l0_2) else (none)) else (none)) else (none)) else (none)) = some (r1, r2) := by first | (rw [hy210]; with_reducible exact H) | (have H2_ := (Option.bind_some _ _).symm.trans H; rw [hy210]; with_reducible exact H2_) | (have H2_ := (Option.bind_some _ _).symm.trans H; with_reducible exact H2_) | with_reducible exact H | (rw [hy210]; exact H) | exact H
                                                    have Ny210 := Aside0.mk hy210
                                                    clear hy210
                                                    by_cases c73 : 0 ≤ x13_3
                                                    · rw [if_pos c73] at H
                                                      have c73b0 : decide (0 ≤ x13_3) = true := decide_eq_true c73
                                                      clear c73
                                                      by_cases c74 : x13_3 < (x8_4.length : Int)
                                                      · rw [if_pos c74] at H
                                                        have c74b0 : decide (x13_3 < (x8_4.length : Int)) = true := decide_eq_true c74
                                                        clear c74
                                                        by_cases c75 : (rd ((rd_T50 l0_0 (rd x8_3 x13_3)).f0) x15_4) < (x9_4.length : Int)
                                                        · rw [if_pos c75] at H
                                                          have c75b0 : decide ((rd ((rd_T50 l0_0 (rd x8_3 x13_3)).f0) x15_4) < (x9_4.length : Int)) = true := decide_eq_true c75
                                                          clear c75
                                                          obtain ⟨y213, hy213⟩ : ∃ y_ : List Int, y_ = (x9_4.set ((rd ((rd_T50 l0_0 (rd x8_3 x13_3)).f0) x15_4) : Int).toNat (rd x8_4 x13_3)) := ⟨_, rfl⟩
                                                          replace H : (if x8_4.length < 17592186044416 then (spec_PathFrom.l2 k4 a2 (x8_4 ++ [rd ((rd_T50 l0_0 (rd x8_3 x13_3)).f0) x15_4]) y213 y210 x13_3 ((rd_T50 l0_0 (rd x8_3 x13_3)).f0) (wrap64 (x15_4 + 1)) l0_0 l0_1 l0_2) else (none)) = some (r1, r2) := by first | (rw [hy213]; with_reducible exact H) | (have H2_ := (Option.bind_some _ _).symm.trans H; rw [hy213]; with_reducible exact H2_) | (have H2_ := (Option.bind_some _ _).symm.trans H; with_reducible exact H2_) | with_reducible exact H | (rw [hy213]; exact H) | exact H
                                                          have Ny213 := Aside0.mk hy213
                                                          clear hy213
                                                          by_cases c77 : x8_4.length < 17592186044416
                                                          · rw [if_pos c77] at H
                                                            have LMc77 := Aside0.mk c77
                                                            clear c77
                                                            obtain ⟨y215, hy215⟩ : ∃ y_ : List Int, y_ = (x8_4 ++ [rd ((rd_T50 l0_0 (rd x8_3 x13_3)).f0) x15_4]) := ⟨_, rfl⟩
                                                            replace H : (spec_PathFrom.l2 k4 a2 y215 y213 y210 x13_3 ((rd_T50 l0_0 (rd x8_3 x13_3)).f0) (wrap64 (x15_4 + 1)) l0_0 l0_1 l0_2) = some (r1, r2) := by first | (rw [hy215]; with_reducible exact H) | (have H2_ := (Option.bind_some _ _).symm.trans H; rw [hy215]; with_reducible exact H2_) | (have H2_ := (Option.bind_some _ _).symm.trans H; with_reducible exact H2_) | with_reducible exact H | (rw [hy215]; exact H) | exact H
                                                            have Ny215 := Aside0.mk hy215
                                                            clear hy215
                                                            have H' := Aside0.mk H
                                                            clear H
                                                            have p206 : 0 ≤ (x15_4 : Int) := of_decide_eq_true (by first | (with_reducible assumption) | assumption)
                                                            have q206 : x15_4 < (((rd_T50 l0_0 (rd x8_3 x13_3)).f0).length : Int) := of_decide_eq_true (by first | (with_reducible assumption) | assumption)
                                                            obtain ⟨ad206, e206, hx206_0⟩ := Kd.at_int HR205_0.out x15_4 p206 q206
                                                            cases e206
                                                            replace hx206_0 := (HB.out.cell (World.block_lt_of_cell? w _ hx206_0)).trans hx206_0
                                                            replace p206 := eq_true p206
                                                            replace q206 := eq_true q206
                                                            have p207 : 0 ≤ (x15_4 : Int) := of_decide_eq_true (by first | (with_reducible assumption) | assumption)
                                                            have q207 : x15_4 < (((rd_T50 l0_0 (rd x8_3 x13_3)).f0).length : Int) := of_decide_eq_true (by first | (with_reducible assumption) | assumption)
                                                            obtain ⟨ad207, e207, hx207_0⟩ := Kd.at_int HR205_0.out x15_4 p207 q207
                                                            obtain rfl : ad206 = ad207 := (by injection e207)
                                                            replace hx207_0 := (HB.out.cell (World.block_lt_of_cell? w _ hx207_0)).trans hx207_0
                                                            replace p207 := eq_true p207
                                                            replace q207 := eq_true q207
                                                            obtain ⟨Ao78, co78, eo78⟩ := Kd.R_slice HO_10.out
                                                            subst eo78
                                                            have p208 : 0 ≤ ((rd ((rd_T50 l0_0 (rd x8_3 x13_3)).f0) x15_4) : Int) := of_decide_eq_true (by first | (with_reducible assumption) | assumption)
                                                            have q208 : (rd ((rd_T50 l0_0 (rd x8_3 x13_3)).f0) x15_4) < (x10_4.length : Int) := of_decide_eq_true (by first | (with_reducible assumption) | assumption)
                                                            obtain ⟨ad208, e208, hx208_0⟩ := Kd.at_bool (Kd.R_reads' HO_10.out).2.2 (rd ((rd_T50 l0_0 (rd x8_3 x13_3)).f0) x15_4) p208 q208
                                                            (try rw [← Nbq69.out] at hx208_0)
                                                            cases e208
                                                            replace p208 := eq_true p208
                                                            replace q208 := eq_true q208
                                                            have p209 : 0 ≤ (x15_4 : Int) := of_decide_eq_true (by first | (with_reducible assumption) | assumption)
                                                            have q209 : x15_4 < (((rd_T50 l0_0 (rd x8_3 x13_3)).f0).length : Int) := of_decide_eq_true (by first | (with_reducible assumption) | assumption)
                                                            obtain ⟨ad209, e209, hx209_0⟩ := Kd.at_int HR205_0.out x15_4 p209 q209
                                                            obtain rfl : ad206 = ad209 := (by injection e209)
                                                            replace hx209_0 := (HB.out.cell (World.block_lt_of_cell? w _ hx209_0)).trans hx209_0
                                                            replace p209 := eq_true p209
                                                            replace q209 := eq_true q209
                                                            have p72 : 0 ≤ ((rd ((rd_T50 l0_0 (rd x8_3 x13_3)).f0) x15_4) : Int) := of_decide_eq_true (by first | (with_reducible assumption) | assumption)
                                                            have q72 : ((rd ((rd_T50 l0_0 (rd x8_3 x13_3)).f0) x15_4) : Int) < ((x10_4.length : Int) : Int) := of_decide_eq_true (by first | (with_reducible assumption) | assumption)
                                                            obtain ⟨go72, co72, eo72, gb72, gl72, cl72, HG72⟩ := Kd.R_form HO_10.out (by omega)
                                                            (first | cases eo72 | (injection eo72 with ea_ en_ ec_; (first | subst ea_ | (injection ea_ with ea_; subst ea_)); subst ec_; clear en_))
                                                            have GB72 := Aside0.mk gb72
                                                            have GG72 := Aside0.mk HG72
                                                            clear gb72 gl72 HG72
                                                            (first | simp only [add_plain] at hx208_0 | skip)
                                                            obtain ⟨hx72_0, hf72_0⟩ := Kd.R_celln false HO_10.out ((rd ((rd_T50 l0_0 (rd x8_3 x13_3)).f0) x15_4) : Int) p72 q72
                                                            replace p72 := eq_true p72
                                                            replace q72 := eq_true q72
                                                            have HP79 := Kd.R_putg HO_10.out ((rd ((rd_T50 l0_0 (rd x8_3 x13_3)).f0) x15_4) : Int) true
                                                            try go_wp2_with (first | ((with_reducible refine gate_store (t := 4) (p := 129) rfl ?_); refine store_event (t := 4) (p := 129) (v := ?vo_w80) (w1 := (wr.setCell ⟨go72, ((rd ((rd_T50 l0_0 (rd x8_3 x13_3)).f0) x15_4) : Int).toNat, none⟩ (.bool true))) ?hg ?ho ?hn ?hr ?_; (case ho => rfl); (case hg => rfl); (case hn => rfl); (case hr => first | (go_simp; done) | (go_simp; rfl)); intro w80 hw; have hg : wr.grownBy w80 (some go72) := (by rw [hw]; exact HP79.2); have hp_ : Kd.R Kd.bool 4 w80 w.heap.size (fun _ => True) (.slice (some ⟨go72, 0, none⟩) x10_4.length co78) y210 := (by rw [hw, Ny210.out]; exact HP79.1); clear HP79; have n0_ := Aside0.mk (Kd.R_over' (v := (.slice (some ⟨go72, 0, none⟩) x10_4.length co78)) (by (with_reducible repeat (first | apply Kd.R_alloc | apply Kd.R_drewN | apply Kd.R_drew)); exact HO_8.out) (Kd.R_typed HO_10.out) (by decide) hg); have n1_ := Aside0.mk (Kd.R_over' (v := (.slice (some ⟨go72, 0, none⟩) x10_4.length co78)) (by (with_reducible repeat (first | apply Kd.R_alloc | apply Kd.R_drewN | apply Kd.R_drew)); exact HO_9.out) (Kd.R_typed HO_10.out) (by decide) hg); have n2_ := Aside0.mk (hp_); have n3_ := Aside0.mk (blk_grown (g := gb187) (o := .cells #[.slice (some ad205) l0_0.length c0_0, .slice (some ad195) l0_1.length c0_1, .slice A0_2 l0_2.length c0_2] 26 (0, 0)) (by (with_reducible repeat (first | refine blk_drewN ?_ _ | refine blk_drew ?_ | refine blk_alloc ?_ _)); exact BK187.out) hg (Kd.R_ne HO_10.out BK187.out (by decide))); have n4_ := Aside0.mk ((by rw [hw]; exact below_set (HB.out) GB72.out : Below w.heap.size w w80)); clear HO_8; clear HO_9; clear HO_10; clear BK187; clear HB; have HO_8 := n0_; have HO_9 := n1_; have HO_10 := n2_; have BK187 := n3_; have HB := n4_; clear n0_ n1_ n2_ n3_ n4_; clear hg hw hp_))
                                                            have n0_ := Aside0.mk (Kd.R_drew HO_8.out)
                                                            have n1_ := Aside0.mk (Kd.R_drew HO_9.out)
                                                            have n2_ := Aside0.mk (Kd.R_drew HO_10.out)
                                                            have n3_ := Aside0.mk (blk_drew BK187.out)
                                                            have n4_ := Aside0.mk (below_drew1 HB.out)
                                                            clear HO_8
                                                            clear HO_9
                                                            clear HO_10
                                                            clear BK187
                                                            clear HB
                                                            have HO_8 := n0_
                                                            have HO_9 := n1_
                                                            have HO_10 := n2_
                                                            have BK187 := n3_
                                                            have HB := n4_
                                                            clear n0_ n1_ n2_ n3_ n4_
                                                            have p211 : 0 ≤ (x15_4 : Int) := of_decide_eq_true (by first | (with_reducible assumption) | assumption)
                                                            have q211 : x15_4 < (((rd_T50 l0_0 (rd x8_3 x13_3)).f0).length : Int) := of_decide_eq_true (by first | (with_reducible assumption) | assumption)
                                                            obtain ⟨ad211, e211, hx211_0⟩ := Kd.at_int HR205_0.out x15_4 p211 q211
                                                            have hw211_0 := hx211_0
                                                            obtain rfl : ad206 = ad211 := (by injection e211)
                                                            replace hx211_0 := (HB.out.cell (World.block_lt_of_cell? w _ hx211_0)).trans hx211_0
                                                            replace p211 := eq_true p211
                                                            replace q211 := eq_true q211
                                                            obtain ⟨Ao82, co82, eo82⟩ := Kd.R_slice HO_8.out
                                                            (first | subst eo82 | (injection eo82 with f1_ f2_ f3_; have f4_ := f1_.symm; have f5_ := f3_.symm; clear f1_ f2_ f3_; subst f4_; subst f5_))
                                                            have p212 : 0 ≤ (x13_3 : Int) := of_decide_eq_true (by first | (with_reducible assumption) | assumption)
                                                            have q212 : x13_3 < (x8_4.length : Int) := of_decide_eq_true (by first | (with_reducible assumption) | assumption)
                                                            obtain ⟨ad212, e212, hx212_0⟩ := Kd.at_int (Kd.R_reads' HO_8.out).2.2 x13_3 p212 q212
                                                            cases e212
                                                            replace p212 := eq_true p212
                                                            replace q212 := eq_true q212
                                                            have p76 : 0 ≤ ((rd ((rd_T50 l0_0 (rd x8_3 x13_3)).f0) x15_4) : Int) := of_decide_eq_true (by first | (with_reducible assumption) | assumption)
                                                            have q76 : ((rd ((rd_T50 l0_0 (rd x8_3 x13_3)).f0) x15_4) : Int) < ((x9_4.length : Int) : Int) := of_decide_eq_true (by first | (with_reducible assumption) | assumption)
                                                            obtain ⟨go76, co76, eo76, gb76, gl76, cl76, HG76⟩ := Kd.R_form HO_9.out (by omega)
                                                            (first | cases eo76 | (injection eo76 with ea_ en_ ec_; (first | subst ea_ | (injection ea_ with ea_; subst ea_)); subst ec_; clear en_))
                                                            have GB76 := Aside0.mk gb76
                                                            have GG76 := Aside0.mk HG76
                                                            clear gb76 gl76 HG76
                                                            obtain ⟨hx76_0, hf76_0⟩ := Kd.R_celln 0 HO_9.out ((rd ((rd_T50 l0_0 (rd x8_3 x13_3)).f0) x15_4) : Int) p76 q76
                                                            replace p76 := eq_true p76
                                                            replace q76 := eq_true q76
                                                            have HP83 := Kd.R_putn HO_9.out ((rd ((rd_T50 l0_0 (rd x8_3 x13_3)).f0) x15_4) : Int) (rd x8_4 x13_3)
                                                            rw [← Ny213.out] at HP83
                                                            have HQ83 := Aside0.mk HP83
                                                            clear HP83
                                                            refine start_ (n := 11) (S := fun w' => w'.cell? (ad206.add (x15_4).toNat) = some (.int .i64 (rd ((rd_T50 l0_0 (rd x8_3 x13_3)).f0) x15_4)) ∧ w'.cell? (ad212.add (x13_3).toNat) = some (.int .i64 (rd x8_4 x13_3))) (ds := [10]) #[false, false, false, false, false, false, false, false, false, false, false] (by kernel_rfl) rfl rfl ⟨((HB.out.cell (World.block_lt_of_cell? w _ hw211_0)).trans hw211_0), hx212_0⟩ (fun hHeld => ?_); refine with_tabW spec_PathFrom.tab23 spec_PathFrom.bits23 (fun HT_ HW_ => ?_)
                                                            generalize w80.drew = w81 at HO_8 HO_9 HO_10 BK187 HB GG76 HQ83 hf76_0 hx211_0 hx212_0 hx76_0 hHeld ⊢
                                                            refine pure_ (i := 0) (N := some 130) (v := ?_) (a' := ?_) #[true, false, false, false, false, false, false, false, false, false, false] rfl rfl (any_of HT_.out (by kernel_rfl)) (fun _ _ _ h => h) (Or.inl ⟨by rfl, ?_⟩) ?_ ?_
                                                            rotate_left
                                                            · intro w'
                                                              go_simp
                                                              with_reducible rfl
                                                            rotate_left
                                                            · simp only [Act.put, List.setIfInBounds_toArray, List.set_cons_zero, List.set_cons_succ, i64_w, i32_w]
                                                              rfl
                                                            refine pure_ (i := 1) (N := some 131) (v := ?_) (a' := ?_) #[true, true, false, false, false, false, false, false, false, false, false] rfl rfl (any_of HT_.out (by kernel_rfl)) (fun _ _ _ h => h) (Or.inl ⟨by rfl, ?_⟩) ?_ ?_
                                                            rotate_left
                                                            · intro w'
                                                              go_simp
                                                              with_reducible rfl
                                                            rotate_left
                                                            · simp only [Act.put, List.setIfInBounds_toArray, List.set_cons_zero, List.set_cons_succ, i64_w, i32_w]
                                                              rfl
                                                            refine pure_ (i := 2) (N := some 132) (v := ?_) (a' := ?_) #[true, true, true, false, false, false, false, false, false, false, false] rfl rfl (any_of HT_.out (by kernel_rfl)) (fun _ _ _ h => h) (Or.inl ⟨by rfl, ?_⟩) ?_ ?_
                                                            rotate_left
                                                            · intro w'
                                                              go_simp
                                                              with_reducible rfl
                                                            rotate_left
                                                            · simp only [Act.put, List.setIfInBounds_toArray, List.set_cons_zero, List.set_cons_succ, i64_w, i32_w]
                                                              rfl
                                                            refine pure_ (i := 3) (N := some 133) (v := ?_) (a' := ?_) #[true, true, true, true, false, false, false, false, false, false, false] rfl rfl (any_of HT_.out (by kernel_rfl)) (fun _ _ _ h => h) (Or.inl ⟨by rfl, ?_⟩) ?_ ?_
                                                            rotate_left
                                                            · intro w'
                                                              go_simp
                                                              with_reducible rfl
                                                            rotate_left
                                                            · simp only [Act.put, List.setIfInBounds_toArray, List.set_cons_zero, List.set_cons_succ, i64_w, i32_w]
                                                              rfl
                                                            refine pure_ (i := 5) (N := some 135) (v := ?_) (a' := ?_) #[true, true, true, true, false, true, false, false, false, false, false] rfl rfl (any_of HT_.out (by kernel_rfl)) (fun _ _ _ h => h) (Or.inl ⟨by rfl, ?_⟩) ?_ ?_
                                                            rotate_left
                                                            · intro w'
                                                              go_simp
                                                              with_reducible rfl
                                                            rotate_left
                                                            · simp only [Act.put, List.setIfInBounds_toArray, List.set_cons_zero, List.set_cons_succ, i64_w, i32_w]
                                                              rfl
                                                            refine pure_ (i := 6) (N := some 136) (v := ?_) (a' := ?_) #[true, true, true, true, false, true, true, false, false, false, false] rfl rfl (any_of HT_.out (by kernel_rfl)) (fun _ _ _ h => h) (Or.inl ⟨by rfl, ?_⟩) ?_ ?_
                                                            rotate_left
                                                            · intro w'
                                                              go_simp
                                                              with_reducible rfl
                                                            rotate_left
                                                            · simp only [Act.put, List.setIfInBounds_toArray, List.set_cons_zero, List.set_cons_succ, i64_w, i32_w]
                                                              rfl
                                                            refine pure_ (i := 7) (N := some 137) (v := ?_) (a' := ?_) #[true, true, true, true, false, true, true, true, false, false, false] rfl rfl (any_of HT_.out (by kernel_rfl)) (fun _ _ _ h => h) (Or.inl ⟨by rfl, ?_⟩) ?_ ?_
                                                            rotate_left
                                                            · intro w'
                                                              go_simp
                                                              with_reducible rfl
                                                            rotate_left
                                                            · simp only [Act.put, List.setIfInBounds_toArray, List.set_cons_zero, List.set_cons_succ, i64_w, i32_w]
                                                              rfl
                                                            refine take_ (i := 4) (N := some 134) (v := ?_) (a' := ?_) #[true, true, true, true, true, true, true, true, false, false, false] rfl rfl (take_ofW HT_.out HW_.out (by kernel_rfl)) (fun _ _ _ h => h) (Or.inl ⟨by rfl, ?_⟩) hHeld ?_ ?_
                                                            rotate_left
                                                            · rintro w' ⟨s0, s1⟩
                                                              go_simp
                                                              with_reducible rfl
                                                            rotate_left
                                                            · simp only [Act.put, List.setIfInBounds_toArray, List.set_cons_zero, List.set_cons_succ, i64_w, i32_w]
                                                              rfl
                                                            refine take_ (i := 8) (N := some 138) (v := ?_) (a' := ?_) #[true, true, true, true, true, true, true, true, true, false, false] rfl rfl (take_ofW HT_.out HW_.out (by kernel_rfl)) (fun _ _ _ h => h) (Or.inl ⟨by rfl, ?_⟩) hHeld ?_ ?_
                                                            rotate_left
                                                            · rintro w' ⟨s0, s1⟩
                                                              go_simp
                                                              with_reducible rfl
                                                            rotate_left
                                                            · simp only [Act.put, List.setIfInBounds_toArray, List.set_cons_zero, List.set_cons_succ, i64_w, i32_w]
                                                              rfl
                                                            refine pure_ (i := 9) (N := some 139) (v := ?_) (a' := ?_) #[true, true, true, true, true, true, true, true, true, true, false] rfl rfl (any_of HT_.out (by kernel_rfl)) (fun _ _ _ h => h) (Or.inl ⟨by rfl, ?_⟩) ?_ ?_
                                                            rotate_left
                                                            · intro w'
                                                              go_simp
                                                              with_reducible rfl
                                                            rotate_left
                                                            · simp only [Act.put, List.setIfInBounds_toArray, List.set_cons_zero, List.set_cons_succ, i64_w, i32_w]
                                                              rfl
                                                            refine last_ (i := 10) (N := none) #[true, true, true, true, true, true, true, true, true, true, true] rfl rfl (one_of HT_.out (by kernel_rfl)) (by decide) (fun K hK => ?_)
                                                            refine skip_ (w1 := ?_) (by rfl) rfl ?_ ?_
                                                            rotate_left
                                                            · go_simp
                                                              rfl
                                                            refine hK.out _ _ ?_
                                                            clear hK K
                                                            refine done_ (done_of HT_.out (by kernel_rfl)) ?_
                                                            have p214 : 0 ≤ (x15_4 : Int) := of_decide_eq_true (by first | (with_reducible assumption) | assumption)
                                                            have q214 : x15_4 < (((rd_T50 l0_0 (rd x8_3 x13_3)).f0).length : Int) := of_decide_eq_true (by first | (with_reducible assumption) | assumption)
                                                            obtain ⟨ad214, e214, hx214_0⟩ := Kd.at_int HR205_0.out x15_4 p214 q214
                                                            obtain rfl : ad206 = ad214 := (by injection e214)
                                                            have hn214_0 : ad206.block ≠ go76 := Nat.ne_of_lt (Nat.lt_of_lt_of_le (by have := World.block_lt_of_cell? _ _ hx214_0; first | rwa [add_block] at this | exact this) GB76.out)
                                                            replace hx214_0 := (HB.out.cell (World.block_lt_of_cell? w _ hx214_0)).trans hx214_0
                                                            replace hx214_0 := (cell_far (p := ⟨go76, ((rd ((rd_T50 l0_0 (rd x8_3 x13_3)).f0) x15_4) : Int).toNat, none⟩) (by first | (rw [add_block]; exact hn214_0) | (show (Addr.add _ _).block ≠ _; rw [add_block]; exact hn214_0) | exact hn214_0) (.int .i64 (rd x8_4 x13_3))).trans hx214_0
                                                            clear hn214_0
                                                            replace p214 := eq_true p214
                                                            replace q214 := eq_true q214
                                                            try go_wp2_with (first | ((with_reducible refine gate_builtin (b := .append) (xs := #[.tmp 140, .tmp 145]) rfl ?_); (try (refine gate_guard (by rfl) ?_; dsimp only)); at_builtin; refine Kd.R_append (Kd.int .i64) (w0 := w) w.heap.size rfl (.tmp 140) (.tmp 145) 24 3 (.int .i64 0) 8 rfl Try.underlying24 info3 rfl (by decide) (by omega) (.slice (some ad212) x8_4.length co82) x8_4 (rd ((rd_T50 l0_0 (rd x8_3 x13_3)).f0) x15_4) [.int .i64 (rd ((rd_T50 l0_0 (rd x8_3 x13_3)).f0) x15_4)] (fun k_ => some k_ ≠ (.slice (some ⟨go76, 0, none⟩) x9_4.length co76 : Value).ownBlock) (fun _ => False) rfl (by first | (go_simp; done) | (go_simp; rfl)) ?aP (fun _ hk => hk.elim) ?aF ?aO ?aB ?aS ?aL ?_; (case aP => exact rfl); (case aB => exact (by repeat (first | (with_reducible first | exact HB.out | apply below_alloc | apply pw_below_drewN | apply below_drew1 | refine below_set ?_ GB76.out | refine below_set ?_ GE187.out) | exact HB.out))); (case aF => exact (fun k_ hk => Kd.fresh' (Kd.R_lt (by (with_reducible repeat (first | apply Kd.R_alloc | apply Kd.R_drewN | apply Kd.R_drew)); exact HQ83.out)) k_ hk)); (case aO => exact (by (with_reducible repeat (first | apply Kd.R_alloc | apply Kd.R_drewN | apply Kd.R_drew)); exact Kd.R_mono (Kd.R_far (p := ⟨go76, ((rd ((rd_T50 l0_0 (rd x8_3 x13_3)).f0) x15_4) : Int).toNat, none⟩) (Kd.R_mono HO_8.out (fun k_ hk => (⟨hk, fun e_ => hk (by rw [e_]; rfl)⟩ : _ ∧ k_ ≠ go76))) (fun _ hk => hk.2) (.int .i64 (rd x8_4 x13_3))) (fun _ hk => hk.1))); (case aS => exact (below_size (by repeat (first | (with_reducible first | exact HB.out | apply below_alloc | apply pw_below_drewN | apply below_drew1 | refine below_set ?_ GB76.out | refine below_set ?_ GE187.out) | exact HB.out)))); (case aL => have := LMc77.out; omega); intro v216 w84 ho hb hg hat; rw [← Ny215.out] at ho; have n0_ := Aside0.mk (Kd.R_after (ok := (fun _ => True)) (by (with_reducible repeat (first | apply Kd.R_alloc | apply Kd.R_drewN | apply Kd.R_drew)); exact Kd.R_mono HQ83.out (fun _ hk => ⟨trivial, hk⟩)) hg hat); have n1_ := Aside0.mk (Kd.R_over' (by (with_reducible repeat (first | apply Kd.R_alloc | apply Kd.R_drewN | apply Kd.R_drew)); exact (Kd.R_mono (Kd.R_far (p := ⟨go76, ((rd ((rd_T50 l0_0 (rd x8_3 x13_3)).f0) x15_4) : Int).toNat, none⟩) (Kd.R_types HO_10.out GG76.out (by decide)) (fun _ hk => hk.2) (.int .i64 (rd x8_4 x13_3))) (fun _ h_ => h_.1))) (Kd.R_typed (by (with_reducible repeat (first | apply Kd.R_alloc | apply Kd.R_drewN | apply Kd.R_drew)); exact (Kd.R_mono (Kd.R_far (p := ⟨go76, ((rd ((rd_T50 l0_0 (rd x8_3 x13_3)).f0) x15_4) : Int).toNat, none⟩) (Kd.R_mono HO_8.out (fun k_ hk => (⟨hk, fun e_ => hk (by rw [e_]; rfl)⟩ : _ ∧ k_ ≠ go76))) (fun _ hk => hk.2) (.int .i64 (rd x8_4 x13_3))) (fun _ h_ => h_.1)))) (by decide) hg); have n2_ := Aside0.mk (blk_grown (g := gb187) (o := .cells #[.slice (some ad205) l0_0.length c0_0, .slice (some ad195) l0_1.length c0_1, .slice A0_2 l0_2.length c0_2] 26 (0, 0)) (by (with_reducible repeat (first | refine blk_drewN ?_ _ | refine blk_drew ?_ | refine blk_alloc ?_ _)); refine blk_far ?_ (by have h_ := Kd.R_ne HO_9.out BK187.out (by decide); intro e_; exact h_ (by rw [e_]; rfl)) _; (with_reducible repeat (first | refine blk_drewN ?_ _ | refine blk_drew ?_ | refine blk_alloc ?_ _)); exact BK187.out) hg (Kd.R_ne HO_8.out BK187.out (by decide))); have n3_ := Aside0.mk (hb); have n4_ := Aside0.mk (ho); clear HO_9; clear HO_10; clear BK187; clear HB; clear HO_8; have HO_9 := n0_; have HO_10 := n1_; have BK187 := n2_; have HB := n3_; have HO217 := n4_; clear n0_ n1_ n2_ n3_ n4_; clear ho hb hg hat))
                                                            go_roundg k4
                                                            case measure => have := HJ3.out; have := HK2.out; have := HK3.out; have := HK4.out; omega
                                                            case rel => exact ⟨(y215), (y213), (y210), (wrap64 (x15_4 + 1)), (by first | rfl | (simp; done) | (simp [*]; done)), H', ⟨by have := HJ3.out; have := HK2.out; have := HK3.out; have := HK4.out; omega⟩, ⟨by (with_reducible repeat (first | apply Kd.R_alloc | apply Kd.R_drewN | apply Kd.R_drew)); exact HO217.out⟩, ⟨by (with_reducible repeat (first | apply Kd.R_alloc | apply Kd.R_drewN | apply Kd.R_drew)); exact Kd.R_mono HO_9.out (fun _ hk => hk.2)⟩, ⟨by (with_reducible repeat (first | apply Kd.R_alloc | apply Kd.R_drewN | apply Kd.R_drew)); exact HO_10.out⟩, ⟨by (with_reducible repeat (first | refine blk_drewN ?_ _ | refine blk_drew ?_ | refine blk_alloc ?_ _)); exact BK187.out⟩, ⟨by repeat (first | (with_reducible first | exact HB.out | apply below_alloc | apply pw_below_drewN | apply below_drew1 | refine below_set ?_ GE187.out) | exact HB.out)⟩⟩
                                                          · rw [if_neg c77] at H
                                                            exact absurd H (by simp)
                                                        · rw [if_neg c75] at H
                                                          exact absurd H (by simp)
                                                      · rw [if_neg c74] at H
                                                        exact absurd H (by simp)
                                                    · rw [if_neg c73] at H
                                                      exact absurd H (by simp)
                                                · rw [if_neg c68] at H
                                                  exact absurd H (by simp)
                                              · rw [if_neg c67] at H
                                                exact absurd H (by simp)
                                            · rw [if_neg c66] at H
                                              have c66b0 : decide (0 ≤ (rd ((rd_T50 l0_0 (rd x8_3 x13_3)).f0) x15_4)) = false := decide_eq_false c66
                                              clear c66
                                              have H' := Aside0.mk H
                                              clear H
                                              have p206 : 0 ≤ (x15_4 : Int) := of_decide_eq_true (by first | (with_reducible assumption) | assumption)
                                              have q206 : x15_4 < (((rd_T50 l0_0 (rd x8_3 x13_3)).f0).length : Int) := of_decide_eq_true (by first | (with_reducible assumption) | assumption)
                                              obtain ⟨ad206, e206, hx206_0⟩ := Kd.at_int HR205_0.out x15_4 p206 q206
                                              cases e206
                                              replace hx206_0 := (HB.out.cell (World.block_lt_of_cell? w _ hx206_0)).trans hx206_0
                                              replace p206 := eq_true p206
                                              replace q206 := eq_true q206
                                              go_wp2
                                              go_roundg k4
                                              case measure => have := HJ3.out; have := HK2.out; have := HK3.out; have := HK4.out; omega
                                              case rel => exact ⟨(x8_4), (x9_4), (x10_4), (wrap64 (x15_4 + 1)), (by first | rfl | (simp; done) | (simp [*]; done)), H', ⟨by have := HJ3.out; have := HK2.out; have := HK3.out; have := HK4.out; omega⟩, ⟨by (with_reducible repeat (first | apply Kd.R_alloc | apply Kd.R_drewN | apply Kd.R_drew)); exact HO_8.out⟩, ⟨by (with_reducible repeat (first | apply Kd.R_alloc | apply Kd.R_drewN | apply Kd.R_drew)); exact HO_9.out⟩, ⟨by (with_reducible repeat (first | apply Kd.R_alloc | apply Kd.R_drewN | apply Kd.R_drew)); exact HO_10.out⟩, ⟨by (with_reducible repeat (first | refine blk_drewN ?_ _ | refine blk_drew ?_ | refine blk_alloc ?_ _)); exact BK187.out⟩, ⟨by repeat (first | (with_reducible first | exact HB.out | apply below_alloc | apply pw_below_drewN | apply below_drew1 | refine below_set ?_ GE187.out) | exact HB.out)⟩⟩
                                          · rw [if_neg c65] at H
                                            exact absurd H (by simp)
                                        · rw [if_neg c64] at H
                                          have c64b0 : decide (x15_4 < (((rd_T50 l0_0 (rd x8_3 x13_3)).f0).length : Int)) = false := decide_eq_false c64
                                          clear c64
                                          have H' := Aside0.mk H
                                          clear H
                                          go_wp2
                                          go_roundg k4
                                          case measure => have := HJ3.out; have := HK2.out; have := HK3.out; have := HK4.out; omega
                                          case rel => exact ⟨(x8_4), (x9_4), (x10_4), (wrap64 (x13_3 + 1)), (by first | rfl | (simp; done) | (simp [*]; done)), H', ⟨by have := HJ3.out; have := HK2.out; have := HK3.out; have := HK4.out; omega⟩, ⟨by (with_reducible repeat (first | apply Kd.R_alloc | apply Kd.R_drewN | apply Kd.R_drew)); exact HO_8.out⟩, ⟨by (with_reducible repeat (first | apply Kd.R_alloc | apply Kd.R_drewN | apply Kd.R_drew)); exact HO_9.out⟩, ⟨by (with_reducible repeat (first | apply Kd.R_alloc | apply Kd.R_drewN | apply Kd.R_drew)); exact HO_10.out⟩, ⟨by (with_reducible repeat (first | refine blk_drewN ?_ _ | refine blk_drew ?_ | refine blk_alloc ?_ _)); exact BK187.out⟩, ⟨by repeat (first | (with_reducible first | exact HB.out | apply below_alloc | apply pw_below_drewN | apply below_drew1 | refine below_set ?_ GE187.out) | exact HB.out)⟩⟩
                                  · rw [if_neg c61] at H
                                    exact absurd H (by simp)
                                · rw [if_neg c60] at H
                                  exact absurd H (by simp)
                              · rw [if_neg c59] at H
                                exact absurd H (by simp)
                            · rw [if_neg c58] at H
                              have c58b0 : decide (x13_3 < (x8_3.length : Int)) = false := decide_eq_false c58
                              clear c58
                              by_cases c85 : 0 ≤ a2
                              · rw [if_pos c85] at H
                                have c85b0 : decide (0 ≤ a2) = true := decide_eq_true c85
                                clear c85
                                by_cases c86 : a2 < (x10_3.length : Int)
                                · rw [if_pos c86] at H
                                  have c86b0 : decide (a2 < (x10_3.length : Int)) = true := decide_eq_true c86
                                  clear c86
                                  obtain ⟨bq87, hbq87⟩ : ∃ b_ : Bool, b_ = (rdOf false x10_3 a2) := ⟨_, rfl⟩
                                  replace H : (if bq87 = true then (spec_PathFrom.l3 k3 x9_3 ([] : List Int) a2) else (some (([] : List Int), false))) = some (r1, r2) := by rw [← hbq87] at H; exact H
                                  have Nbq87 := Aside0.mk hbq87
                                  clear hbq87
                                  by_cases c88 : bq87 = true
                                  · subst c88
                                    have H1 : (spec_PathFrom.l3 k3 x9_3 ([] : List Int) a2) = some (r1, r2) := by rw [if_pos rfl] at H; exact H
                                    clear H
                                    have H := H1
                                    clear H1
                                    have H' := Aside0.mk H
                                    clear H
                                    obtain ⟨Ao89, co89, eo89⟩ := Kd.R_slice HO_8.out
                                    subst eo89
                                    obtain ⟨Ao90, co90, eo90⟩ := Kd.R_slice HO_10.out
                                    subst eo90
                                    have p218 : 0 ≤ (a2 : Int) := of_decide_eq_true (by first | (with_reducible assumption) | assumption)
                                    have q218 : a2 < (x10_3.length : Int) := of_decide_eq_true (by first | (with_reducible assumption) | assumption)
                                    obtain ⟨ad218, e218, hx218_0⟩ := Kd.at_bool (Kd.R_reads' HO_10.out).2.2 a2 p218 q218
                                    (try rw [← Nbq87.out] at hx218_0)
                                    cases e218
                                    replace p218 := eq_true p218
                                    replace q218 := eq_true q218
                                    go_wp2
                                    go_loopg [16, 17] k3 (fun kq v16 v17 w' => ∃ (x16_4 : List Int) (x17_4 : Int), v17 = .int .i64 x17_4 ∧ Aside0 (spec_PathFrom.l3 kq x9_3 x16_4 x17_4 = some (r1, r2)) ∧ Aside0 (kq ≤ k3) ∧ Aside0 (Kd.R (Kd.int .i64) 3 w' w.heap.size (fun k_ => some k_ ≠ (v16 : Value).ownBlock) v190 x9_3) ∧ Aside0 (Kd.R (Kd.int .i64) 3 w' w.heap.size (fun k_ => some k_ ≠ (v190 : Value).ownBlock) v16 x16_4) ∧ Aside0 (w'.heap[gb187]? = some (.cells #[(.slice A0_0 l0_0.length c0_0), (.slice (some ad195) l0_1.length c0_1), (.slice A0_2 l0_2.length c0_2)] 26 (0, 0))) ∧ Aside0 (Below w.heap.size w w'))
                                    case atStart => exact ⟨(([] : List Int)), (a2), (by first | rfl | (simp; done) | (simp [*]; done)), H', ⟨Nat.le_refl _⟩, ⟨by (with_reducible repeat (first | apply Kd.R_alloc | apply Kd.R_drewN | apply Kd.R_drew)); exact Kd.R_mono HO_9.out (fun _ hk => (by simp [Value.ownBlock]))⟩, ⟨by first | exact Kd.R_nil _ _ _ _ _ | exact Kd.N_nil _ _ _ _ _ | exact Kd.V_nil _ _ _ _ _ | exact Kd.Q_nil _ _ _ _ _ | exact Kd.S_nil _ _ _ _ _⟩, ⟨by (with_reducible repeat (first | refine blk_drewN ?_ _ | refine blk_drew ?_ | refine blk_alloc ?_ _)); exact BK187.out⟩, ⟨by repeat (first | (with_reducible first | exact HB.out | apply below_alloc | apply pw_below_drewN | apply below_drew1 | refine below_set ?_ GE187.out) | exact HB.out)⟩⟩
                                    case round =>
                                      clear H'
                                      try clear c1
                                      try clear p1
                                      try clear q1
                                      try clear hx1
                                      try clear c2
                                      try clear p2
                                      try clear q2
                                      try clear hx2
                                      try clear c3
                                      try clear c4
                                      try clear p4
                                      try clear q4
                                      try clear hx4
                                      try clear hf4
                                      try clear c5
                                      try clear c6
                                      try clear p6
                                      try clear q6
                                      try clear c7
                                      try clear p7
                                      try clear q7
                                      try clear hx7
                                      try clear hf7
                                      try clear c8
                                      try clear c8b0
                                      try clear q8
                                      try clear c11
                                      try clear c11b0
                                      try clear c14
                                      try clear c15
                                      try clear c15b0
                                      try clear c19
                                      try clear p19
                                      try clear q19
                                      try clear hx19
                                      try clear c20
                                      try clear p20
                                      try clear q20
                                      try clear hx20
                                      try clear p21
                                      try clear q21
                                      try clear hx21
                                      try clear c24
                                      try clear c25
                                      try clear c25b0
                                      try clear c25b1
                                      try clear c26
                                      try clear c26b0
                                      try clear c26b1
                                      try clear c27
                                      try clear c27b0
                                      try clear c27b1
                                      try clear c34
                                      try clear c34b0
                                      try clear c35
                                      try clear c35b0
                                      try clear c36
                                      try clear c36b0
                                      try clear c37
                                      try clear c37b0
                                      try clear c38
                                      try clear c38b0
                                      try clear c39
                                      try clear c39b0
                                      try clear c40
                                      try clear c40b0
                                      try clear q41
                                      try clear c42
                                      try clear p45
                                      try clear q45
                                      try clear hx45
                                      try clear hf45
                                      try clear c46
                                      try clear c46b0
                                      try clear p47
                                      try clear q47
                                      try clear hx47
                                      try clear hf47
                                      try clear c48
                                      try clear c58
                                      try clear c58b0
                                      try clear c59
                                      try clear c59b0
                                      try clear c60
                                      try clear c60b0
                                      try clear c61
                                      try clear c61b0
                                      try clear c64
                                      try clear c64b0
                                      try clear p64
                                      try clear c65
                                      try clear c65b0
                                      try clear c66
                                      try clear c66b0
                                      try clear c67
                                      try clear c67b0
                                      try clear c68
                                      try clear c68b0
                                      try clear q69
                                      try clear c70
                                      try clear p72
                                      try clear q72
                                      try clear hx72
                                      try clear hf72
                                      try clear c73
                                      try clear c73b0
                                      try clear c74
                                      try clear c74b0
                                      try clear c75
                                      try clear c75b0
                                      try clear p76
                                      try clear q76
                                      try clear hx76
                                      try clear hf76
                                      try clear c77
                                      try clear c85
                                      try clear c85b0
                                      try clear c86
                                      try clear c86b0
                                      try clear q87
                                      try clear c88
                                      try clear hcz12_0
                                      try clear hcz12_1
                                      try clear hcz12_2
                                      try clear hcz14_0
                                      try clear hcz14_1
                                      try clear hcz14_2
                                      try clear hcz16_0
                                      try clear hcz16_1
                                      try clear hcz16_2
                                      try clear hcz18_0
                                      try clear hcz18_1
                                      try clear hcz18_2
                                      try clear hcz19_0
                                      try clear hcz19_1
                                      try clear hcz19_2
                                      try clear hcz21_0
                                      try clear hcz21_1
                                      try clear hcz21_2
                                      try clear hcz22_0
                                      try clear hcz22_1
                                      try clear hcz22_2
                                      try clear hcz28_0
                                      try clear hcz28_1
                                      try clear hcz28_2
                                      try clear hcz31_0
                                      try clear hcz31_1
                                      try clear hcz31_2
                                      try clear hcz43_0
                                      try clear hcz43_1
                                      try clear hcz43_2
                                      try clear hcz49_0
                                      try clear hcz49_1
                                      try clear hcz49_2
                                      try clear hcz56_0
                                      try clear hcz56_1
                                      try clear hcz56_2
                                      try clear hcz57_0
                                      try clear hcz57_1
                                      try clear hcz57_2
                                      try clear hcz9_0
                                      try clear hcz9_1
                                      try clear hcz9_2
                                      try clear hfz12_0
                                      try clear hfz12_1
                                      try clear hfz12_2
                                      try clear hfz14_0
                                      try clear hfz14_1
                                      try clear hfz14_2
                                      try clear hfz16_0
                                      try clear hfz16_1
                                      try clear hfz16_2
                                      try clear hfz18_0
                                      try clear hfz18_1
                                      try clear hfz18_2
                                      try clear hfz19_0
                                      try clear hfz19_1
                                      try clear hfz19_2
                                      try clear hfz21_0
                                      try clear hfz21_1
                                      try clear hfz21_2
                                      try clear hfz22_0
                                      try clear hfz22_1
                                      try clear hfz22_2
                                      try clear hfz28_0
                                      try clear hfz28_1
                                      try clear hfz28_2
                                      try clear hfz31_0
                                      try clear hfz31_1
                                      try clear hfz31_2
                                      try clear hfz43_0
                                      try clear hfz43_1
                                      try clear hfz43_2
                                      try clear hfz49_0
                                      try clear hfz49_1
                                      try clear hfz49_2
                                      try clear hfz56_0
                                      try clear hfz56_1
                                      try clear hfz56_2
                                      try clear hfz57_0
                                      try clear hfz57_1
                                      try clear hfz57_2
                                      try clear hfz9_0
                                      try clear hfz9_1
                                      try clear hfz9_2
                                      try clear hx195_0
                                      try clear hx196_0
                                      try clear hx197_0
                                      try clear hx198_0
                                      try clear hx204_0
                                      try clear hx205_0
                                      try clear hx205_1
                                      try clear hx206_0
                                      try clear hx207_0
                                      try clear hx208_0
                                      try clear hx209_0
                                      try clear hx211_0
                                      try clear hx212_0
                                      try clear hx214_0
                                      try clear hx218_0
                                      try clear hx45_0
                                      try clear hx47_0
                                      try clear hx72_0
                                      try clear hx76_0
                                      try clear p1
                                      try clear p19
                                      try clear p195
                                      try clear p196
                                      try clear p197
                                      try clear p198
                                      try clear p2
                                      try clear p20
                                      try clear p204
                                      try clear p205
                                      try clear p206
                                      try clear p207
                                      try clear p208
                                      try clear p209
                                      try clear p211
                                      try clear p212
                                      try clear p214
                                      try clear p218
                                      try clear p4
                                      try clear p45
                                      try clear p47
                                      try clear p6
                                      try clear p72
                                      try clear p76
                                      try clear q1
                                      try clear q19
                                      try clear q195
                                      try clear q196
                                      try clear q197
                                      try clear q198
                                      try clear q2
                                      try clear q20
                                      try clear q204
                                      try clear q205
                                      try clear q206
                                      try clear q207
                                      try clear q208
                                      try clear q209
                                      try clear q211
                                      try clear q212
                                      try clear q214
                                      try clear q218
                                      try clear q4
                                      try clear q41
                                      try clear q45
                                      try clear q47
                                      try clear q72
                                      try clear q76
                                      obtain ⟨x16_4, x17_4, rfl, HA, HK4, HO_9, HO_16, BK187, HB⟩ := hrel
                                      cases gk with
                                      | zero => exact absurd HA.out (by simp [spec_PathFrom.l3])
                                      | succ k4 =>
                                        have H := HA.out
                                        clear HA
                                        simp only [spec_PathFrom.l3] at H
                                        by_cases c91 : x17_4 ≥ 0
                                        · rw [if_pos c91] at H
                                          have c91b0 : decide (0 ≤ x17_4) = true := decide_eq_true c91
                                          clear c91
                                          obtain ⟨y219, hy219⟩ : ∃ y_ : List Int, y_ = (([x17_4] : List Int)) := ⟨_, rfl⟩
                                          replace H : (if y219.length + x16_4.length < 17592186044416 then (if 0 ≤ x17_4 then (if x17_4 < (x9_3.length : Int) then (spec_PathFrom.l3 k4 x9_3 (y219 ++ x16_4) (rd x9_3 x17_4)) else (none)) else (none)) else (none)) = some (r1, r2) := by first | (rw [hy219]; with_reducible exact H) | (have H2_ := (Option.bind_some _ _).symm.trans H; rw [hy219]; with_reducible exact H2_) | (have H2_ := (Option.bind_some _ _).symm.trans H; with_reducible exact H2_) | with_reducible exact H | (rw [hy219]; exact H) | exact H
                                          have Ny219 := Aside0.mk hy219
                                          clear hy219
                                          by_cases c92 : y219.length + x16_4.length < 17592186044416
                                          · rw [if_pos c92] at H
                                            have LMc92 := Aside0.mk c92
                                            clear c92
                                            obtain ⟨y222, hy222⟩ : ∃ y_ : List Int, y_ = (y219 ++ x16_4) := ⟨_, rfl⟩
                                            replace H : (if 0 ≤ x17_4 then (if x17_4 < (x9_3.length : Int) then (spec_PathFrom.l3 k4 x9_3 y222 (rd x9_3 x17_4)) else (none)) else (none)) = some (r1, r2) := by first | (rw [hy222]; with_reducible exact H) | (have H2_ := (Option.bind_some _ _).symm.trans H; rw [hy222]; with_reducible exact H2_) | (have H2_ := (Option.bind_some _ _).symm.trans H; with_reducible exact H2_) | with_reducible exact H | (rw [hy222]; exact H) | exact H
                                            have Ny222 := Aside0.mk hy222
                                            clear hy222
                                            by_cases c93 : 0 ≤ x17_4
                                            · rw [if_pos c93] at H
                                              have c93b0 : decide (0 ≤ x17_4) = true := decide_eq_true c93
                                              clear c93
                                              by_cases c94 : x17_4 < (x9_3.length : Int)
                                              · rw [if_pos c94] at H
                                                have c94b0 : decide (x17_4 < (x9_3.length : Int)) = true := decide_eq_true c94
                                                clear c94
                                                have H' := Aside0.mk H
                                                clear H
                                                go_wp2_with (first | ((with_reducible refine gate_dst (N := 160) rfl ?_); (try (refine gate_guard (by rfl) ?_; dsimp only)); refine Kd.R_lit (Kd.int .i64) _ 3 ?hg (N := 160) ?hd (xs := ([x17_4] : List Int)) (inner := [.int .i64 x17_4]) (ok := fun _ => True) (okp := fun _ => True) ?hr ?hp (fun _ hk => hk) trivial (Below.refl _ _) (Nat.le_refl _) (by simp) ?_; (case hd => rfl); (case hg => rfl); (case hr => first | (go_simp; done) | (go_simp; rfl)); (case hp => exact (Reps.one (show Kd.M (Kd.int .i64) _ _ _ x17_4 [.int .i64 x17_4] from rfl) (Reps.none _ _))); intro v220 w95 ho96 hb hg_ hnew_; clear hg_ hnew_; (first | rw [← Ny219.out] at ho96 | (simp only [Int.reduceToNat] at ho96; rw [← Ny219.out] at ho96)); have n0_ := Aside0.mk (Kd.R_elder' (by (with_reducible repeat (first | apply Kd.R_alloc | apply Kd.R_drewN | apply Kd.R_drew)); exact HO_9.out) (Kd.R_base ho96) hb); have n1_ := Aside0.mk (Kd.R_elder' (by (with_reducible repeat (first | apply Kd.R_alloc | apply Kd.R_drewN | apply Kd.R_drew)); exact HO_16.out) (Kd.R_base ho96) hb); have n2_ := Aside0.mk (Kd.R_lower (Kd.R_new' (Kd.R_new' ho96 (Kd.R_lt (by (with_reducible repeat (first | apply Kd.R_alloc | apply Kd.R_drewN | apply Kd.R_drew)); exact HO_9.out))) (Kd.R_lt (by (with_reducible repeat (first | apply Kd.R_alloc | apply Kd.R_drewN | apply Kd.R_drew)); exact HO_16.out))) (below_size (by repeat (first | (with_reducible first | exact HB.out | apply below_alloc | apply pw_below_drewN | apply below_drew1 | refine below_set ?_ GE187.out) | exact HB.out)))); have n3_ := Aside0.mk (blk_below (g := gb187) (o := .cells #[.slice A0_0 l0_0.length c0_0, .slice (some ad195) l0_1.length c0_1, .slice A0_2 l0_2.length c0_2] 26 (0, 0)) (by (with_reducible repeat (first | refine blk_drewN ?_ _ | refine blk_drew ?_ | refine blk_alloc ?_ _)); exact BK187.out) hb); have n4_ := Aside0.mk (below_step (by repeat (first | (with_reducible first | exact HB.out | apply below_alloc | apply pw_below_drewN | apply below_drew1 | refine below_set ?_ GE187.out) | exact HB.out)) hb); clear HO_9; clear HO_16; clear BK187; clear HB; have HO_9 := n0_; have HO_16 := n1_; have HO221 := n2_; have BK187 := n3_; have HB := n4_; clear n0_ n1_ n2_ n3_ n4_; clear hb ho96; obtain ⟨Ao98, co98, eo98⟩ := Kd.R_slice HO_16.out; subst eo98) | ((with_reducible refine gate_builtin (b := .append) (xs := #[.tmp 160, .tmp 161]) rfl ?_); (try (refine gate_guard (by rfl) ?_; dsimp only)); at_builtin; refine Kd.R_append_rows (Kd.int .i64) (w0 := w) w.heap.size rfl (.tmp 160) (.tmp 161) 24 3 (.int .i64 0) 8 rfl Try.underlying24 info3 rfl (by decide) (by omega) v220 y219 x16_4 _ _ _ (fun k_ => some k_ ≠ (v190 : Value).ownBlock ∧ some k_ ≠ (.slice Ao98 x16_4.length co98 : Value).ownBlock) (fun _ => False) rfl rfl ?aO ?aR (fun _ _ h => h) (fun _ h => h.elim) ?aF ?aB ?aS ?aL ?_; (case aR => repeat (first | exact (Kd.R_reads' HO_16.out).2.2 | (with_reducible refine Kd.C_alloc ?_ _) | (with_reducible refine Kd.C_drewN ?_ _) | (with_reducible refine Kd.C_drew ?_))); (case aB => exact (by repeat (first | (with_reducible first | exact HB.out | apply below_alloc | apply pw_below_drewN | apply below_drew1 | refine below_set ?_ GE187.out) | exact HB.out))); (case aF => exact (fun k_ hk => ⟨Kd.fresh' (Kd.R_lt (by (with_reducible repeat (first | apply Kd.R_alloc | apply Kd.R_drewN | apply Kd.R_drew)); exact HO_9.out)) k_ hk, Kd.fresh' (Kd.R_lt (by (with_reducible repeat (first | apply Kd.R_alloc | apply Kd.R_drewN | apply Kd.R_drew)); exact HO_16.out)) k_ hk⟩)); (case aO => exact (by (with_reducible repeat (first | apply Kd.R_alloc | apply Kd.R_drewN | apply Kd.R_drew)); exact Kd.R_mono HO221.out (fun _ hk => ⟨hk.1.2, hk.2⟩))); (case aS => exact (below_size (by repeat (first | (with_reducible first | exact HB.out | apply below_alloc | apply pw_below_drewN | apply below_drew1 | refine below_set ?_ GE187.out) | exact HB.out)))); (case aL => have := LMc92.out; omega); intro v223 w97 ho hb hg hat; rw [← Ny222.out] at ho; have n0_ := Aside0.mk (Kd.R_after (ok := (fun k_ => some k_ ≠ (.slice Ao98 x16_4.length co98 : Value).ownBlock)) (by (with_reducible repeat (first | apply Kd.R_alloc | apply Kd.R_drewN | apply Kd.R_drew)); exact HO_9.out) hg hat); have n1_ := Aside0.mk (Kd.R_after (ok := (fun k_ => some k_ ≠ (v190 : Value).ownBlock)) (by (with_reducible repeat (first | apply Kd.R_alloc | apply Kd.R_drewN | apply Kd.R_drew)); exact HO_16.out) hg hat); have n2_ := Aside0.mk (blk_grown (g := gb187) (o := .cells #[.slice A0_0 l0_0.length c0_0, .slice (some ad195) l0_1.length c0_1, .slice A0_2 l0_2.length c0_2] 26 (0, 0)) (by (with_reducible repeat (first | refine blk_drewN ?_ _ | refine blk_drew ?_ | refine blk_alloc ?_ _)); exact BK187.out) hg (Kd.R_ne HO221.out BK187.out (by decide))); have n3_ := Aside0.mk (hb); have n4_ := Aside0.mk (ho); clear HO_9; clear HO_16; clear BK187; clear HB; clear HO221; have HO_9 := n0_; have HO_16 := n1_; have BK187 := n2_; have HB := n3_; have HO224 := n4_; clear n0_ n1_ n2_ n3_ n4_; clear ho hb hg hat; obtain ⟨Ao99, co99, eo99⟩ := Kd.R_slice HO_9.out; subst eo99; have p225 : 0 ≤ (x17_4 : Int) := of_decide_eq_true (by first | (with_reducible assumption) | assumption); have q225 : x17_4 < (x9_3.length : Int) := of_decide_eq_true (by first | (with_reducible assumption) | assumption); obtain ⟨ad225, e225, hx225_0⟩ := Kd.at_int (Kd.R_reads' HO_9.out).2.2 x17_4 p225 q225; cases e225; replace p225 := eq_true p225; replace q225 := eq_true q225))
                                                go_roundg k4
                                                case measure => have := HJ3.out; have := HK2.out; have := HK3.out; have := HK4.out; omega
                                                case rel => exact ⟨(y222), (rd x9_3 x17_4), (by first | rfl | (simp; done) | (simp [*]; done)), H', ⟨by have := HJ3.out; have := HK2.out; have := HK3.out; have := HK4.out; omega⟩, ⟨by (with_reducible repeat (first | apply Kd.R_alloc | apply Kd.R_drewN | apply Kd.R_drew)); exact Kd.R_mono HO_9.out (fun _ hk => hk.2)⟩, ⟨by (with_reducible repeat (first | apply Kd.R_alloc | apply Kd.R_drewN | apply Kd.R_drew)); exact Kd.R_mono HO224.out (fun _ hk => hk.1)⟩, ⟨by (with_reducible repeat (first | refine blk_drewN ?_ _ | refine blk_drew ?_ | refine blk_alloc ?_ _)); exact BK187.out⟩, ⟨by repeat (first | (with_reducible first | exact HB.out | apply below_alloc | apply pw_below_drewN | apply below_drew1 | refine below_set ?_ GE187.out) | exact HB.out)⟩⟩
                                              · rw [if_neg c94] at H
                                                exact absurd H (by simp)
                                            · rw [if_neg c93] at H
                                              exact absurd H (by simp)
                                          · rw [if_neg c92] at H
                                            exact absurd H (by simp)
                                        · rw [if_neg c91] at H
                                          have c91b0 : decide (0 ≤ x17_4) = false := decide_eq_false c91
                                          clear c91
                                          simp only [Option.some.injEq, Prod.mk.injEq] at H
                                          obtain ⟨rfl, rfl⟩ := H
                                          go_wp2
                                          go_ret2
                                          exact ⟨_, by first | rfl | (simp [errW_none, errW_some] <;> rfl) | (simp [*, errW_none, errW_some] <;> rfl), by (with_reducible repeat (first | apply Kd.R_alloc | apply Kd.R_drewN | apply Kd.R_drew)); exact Kd.R_mono HO_16.out (fun _ hk => trivial), by repeat (first | (with_reducible first | exact HB.out | apply below_alloc | apply pw_below_drewN | apply below_drew1 | refine below_set ?_ GE187.out) | exact HB.out)⟩
                                  · replace c88 := Bool.eq_false_iff.mpr c88
                                    subst c88
                                    have H1 : (some (([] : List Int), false)) = some (r1, r2) := by rw [if_neg (show ¬ (false = true) by decide)] at H; exact H
                                    clear H
                                    have H := H1
                                    clear H1
                                    simp only [Option.some.injEq, Prod.mk.injEq] at H
                                    obtain ⟨rfl, rfl⟩ := H
                                    obtain ⟨Ao100, co100, eo100⟩ := Kd.R_slice HO_8.out
                                    subst eo100
                                    obtain ⟨Ao101, co101, eo101⟩ := Kd.R_slice HO_10.out
                                    subst eo101
                                    have p218 : 0 ≤ (a2 : Int) := of_decide_eq_true (by first | (with_reducible assumption) | assumption)
                                    have q218 : a2 < (x10_3.length : Int) := of_decide_eq_true (by first | (with_reducible assumption) | assumption)
                                    obtain ⟨ad218, e218, hx218_0⟩ := Kd.at_bool (Kd.R_reads' HO_10.out).2.2 a2 p218 q218
                                    (try rw [← Nbq87.out] at hx218_0)
                                    cases e218
                                    replace p218 := eq_true p218
                                    replace q218 := eq_true q218
                                    go_wp2
                                    go_ret2
                                    exact ⟨_, by first | rfl | (simp [errW_none, errW_some] <;> rfl) | (simp [*, errW_none, errW_some] <;> rfl), by first | exact Kd.R_nil _ _ _ _ _ | exact Kd.N_nil _ _ _ _ _ | exact Kd.V_nil _ _ _ _ _ | exact Kd.Q_nil _ _ _ _ _ | exact Kd.S_nil _ _ _ _ _, by repeat (first | (with_reducible first | exact HB.out | apply below_alloc | apply pw_below_drewN | apply below_drew1 | refine below_set ?_ GE187.out) | exact HB.out)⟩
                                · rw [if_neg c86] at H
                                  exact absurd H (by simp)
                              · rw [if_neg c85] at H
                                exact absurd H (by simp)
                    · rw [if_neg c35] at H
                      exact absurd H (by simp)
                  · rw [if_neg c34] at H
                    exact absurd H (by simp)
            · rw [if_neg c27] at H
              exact absurd H (by simp)
          · rw [if_neg c26] at H
            exact absurd H (by simp)
        · rw [if_neg c25] at H
          exact absurd H (by simp)

end Go.Proofs.Ytdaikmojalfimaa.QFnExactPathFrom
